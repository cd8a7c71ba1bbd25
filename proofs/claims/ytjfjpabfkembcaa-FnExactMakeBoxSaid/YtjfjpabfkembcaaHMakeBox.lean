/- MakeBox, the reference's: the walk. Printed by this session's gen_makeboxs.py. -/
import Derived.Test.YtjfjpabfkembcaaHMakeBoxI
import Derived.Test.YtjfjpabfkembcaaHLaw
import Derived.Deep.DeepCutAuto
namespace Go.Proofs.Ytjfjpabfkembcaa.H
open Go.RowKit
set_option linter.unusedVariables false
set_option linter.unusedSimpArgs false
theorem cell_keep {w w' : World} {D : List Nat} {p : Addr} {v : Value} (h : w.cell? p = some v) (hk : Keep D w w') (hp : p.block ∉ D) : w'.cell? p = some v :=
  (World.cell?_of_block (w := w) (hk.block p.block (World.block_lt_of_cell? w p h) hp)).trans h
def lowsB (x : Int) (l : List Box) : List Box := l.filter (fun y => decide (y.g < x))
def highsB (x : Int) (l : List Box) : List Box := l.filter (fun y => decide (x < y.g))
theorem takeB_snoc {l : List Box} {i : Nat} (h : i < l.length) : l.take (i + 1) = l.take i ++ [l[i]] := by
  rw [List.take_add_one, List.getElem?_eq_getElem h]; rfl
theorem lowsB_yes {x : Int} {l : List Box} {i : Nat} (h : i < l.length) (hx : l[i].g < x) : lowsB x (l.take (i + 1)) = lowsB x (l.take i) ++ [l[i]] := by
  unfold lowsB; rw [takeB_snoc h, List.filter_append]; simp [hx]
theorem lowsB_no {x : Int} {l : List Box} {i : Nat} (h : i < l.length) (hx : ¬ l[i].g < x) : lowsB x (l.take (i + 1)) = lowsB x (l.take i) := by
  unfold lowsB; rw [takeB_snoc h, List.filter_append]; simp; omega
theorem highsB_yes {x : Int} {l : List Box} {i : Nat} (h : i < l.length) (hx : x < l[i].g) : highsB x (l.take (i + 1)) = highsB x (l.take i) ++ [l[i]] := by
  unfold highsB; rw [takeB_snoc h, List.filter_append]; simp [hx]
theorem highsB_no {x : Int} {l : List Box} {i : Nat} (h : i < l.length) (hx : ¬ x < l[i].g) : highsB x (l.take (i + 1)) = highsB x (l.take i) := by
  unfold highsB; rw [takeB_snoc h, List.filter_append]; simp; omega
theorem lowsB_len (x : Int) (l : List Box) : (lowsB x l).length ≤ l.length := List.length_filter_le _ _
theorem highsB_len (x : Int) (l : List Box) : (highsB x l).length ≤ l.length := List.length_filter_le _ _
set_option maxHeartbeats 20000000 in
set_option maxRecDepth 100000 in
theorem specMakeBox_calls (w : World) (bv gv : Value) (s : Store) (g : Int) (tx : ByteArray) (h : rdBoxes w bv s.bx) (hg : rdInts w gv s.go) (hl : smStore s) (ht : ∀ b ∈ s.bx, txBox b) (htx : tx.size ≤ 9223372036854775807) :
    Calls Try.prog 19 #[.agg #[.int .i64 s.by_, .int .i64 s.tm, bv, gv], .int .i64 g, .string tx] w (RetStoreB w w (makeBox s g tx)) := by
  obtain ⟨A0, c0, rfl, _, hm⟩ := rd_len h
  obtain ⟨A1, c1, rfl, _, _⟩ := rd_len hg
  have HR := Aside.mk h
  have HG := Aside.mk hg
  have HL := Aside.mk hl
  have HT := Aside.mk ht
  clear h hg hl ht
  rcases h1 : storeOk s with _ | _
  rotate_left
  rcases h2 : knows s g with _ | _
  by_cases h3 : 0 ≤ boxNamed s.bx tx
  rotate_left
  · have HE : Aside (makeBox s g tx = orElse ⟨s.by_, s.tm + 1, addBox ⟨g, tx, s.tm + 1, s.by_, 1, [], []⟩ s.bx, s.go⟩ s) := ⟨by unfold makeBox; rw [h1, h2, decide_eq_true (show boxNamed s.bx tx < 0 by omega)]; simp only [Bool.and_self, Bool.not_false, if_true]⟩
    have HTX := Aside.mk htx
    have htm := storeOk_time h1
    obtain ⟨htm0, htm1⟩ := htm
    have HLL : Aside (s.bx.length ≤ 4000000) := ⟨HL.out.1.1⟩
    go_enter Try.func19, Try.ntmps19
    go_wp2_with (fail)
    refine (specStoreOk_calls _ _ _ s (rdBoxes_mov (by (repeat (first | (with_reducible exact HB.out) | (with_reducible exact Below.refl _ _) | (with_reducible refine below_set ?_ (by first | omega | (dsimp only; omega) | (simp; done) | (simp; omega)) _) | (with_reducible refine below_alloc ?_ _) | (with_reducible refine below_drewN ?_ _) | (with_reducible refine below_drew ?_)))) HR.out) (rdInts_mov (by (repeat (first | (with_reducible exact HB.out) | (with_reducible exact Below.refl _ _) | (with_reducible refine below_set ?_ (by first | omega | (dsimp only; omega) | (simp; done) | (simp; omega)) _) | (with_reducible refine below_alloc ?_ _) | (with_reducible refine below_drewN ?_ _) | (with_reducible refine below_drew ?_)))) HG.out) HT.out).mono ?_
    rintro e w' ⟨he, hb⟩
    rw [h1] at he
    subst he
    have L0 := Aside.mk (((Loc.new w #[.int .i64 s.by_, .int .i64 s.tm, .slice A0 s.bx.length c0, .slice A1 s.go.length c1] 45).alloc (.cells #[.int .i64 0, .int .i64 0, .slice none 0 0, .slice none 0 0] 45)).below hb)
    have L1 := Aside.mk ((Loc.new1 w (.cells #[.int .i64 s.by_, .int .i64 s.tm, .slice A0 s.bx.length c0, .slice A1 s.go.length c1] 45) #[.int .i64 0, .int .i64 0, .slice none 0 0, .slice none 0 0] 45).below hb)
    have HB := Aside.mk (below_step (w0 := w) (by (repeat (first | (with_reducible exact HB.out) | (with_reducible exact Below.refl _ _) | (with_reducible refine below_set ?_ (by first | omega | (dsimp only; omega) | (simp; done) | (simp; omega)) _) | (with_reducible refine below_alloc ?_ _) | (with_reducible refine below_drewN ?_ _) | (with_reducible refine below_drew ?_)))) hb)
    clear hb
    have l0 := L0.out.cells
    have l1 := L1.out.cells
    have q0 := L0.out.lt
    have q1 := L1.out.lt
    have f1 := L1.out.free
    go_wp2_with (first
      | (go_at_call 88; refine (specKnows_calls _ _ _ s g (rdBoxes_mov HB.out HR.out) (rdInts_mov HB.out HG.out)).mono ?_; rintro e w' ⟨he, hb⟩; rw [h2] at he; subst he; replace L0 := Aside.mk (L0.out.below hb); replace L1 := Aside.mk (L1.out.below hb); replace HB := Aside.mk (below_step HB.out hb); (try clear l0); (try clear q0); (try clear f0); (try clear l1); (try clear q1); (try clear f1); have l0 := L0.out.cells; have q0 := L0.out.lt; have f0 := L0.out.free; have l1 := L1.out.cells; have q1 := L1.out.lt; have f1 := L1.out.free; clear hb)
      | (go_at_call 89; refine (specBoxNamed_calls _ _ _ s tx (rdBoxes_mov HB.out HR.out) rfl).mono ?_; rintro e w' ⟨rfl, hb⟩; replace L0 := Aside.mk (L0.out.below hb); replace L1 := Aside.mk (L1.out.below hb); replace HB := Aside.mk (below_step HB.out hb); (try clear l0); (try clear q0); (try clear f0); (try clear l1); (try clear q1); (try clear f1); have l0 := L0.out.cells; have q0 := L0.out.lt; have f0 := L0.out.free; have l1 := L1.out.cells; have q1 := L1.out.lt; have f1 := L1.out.free; clear hb))
    clear h1 h2 h3
    refine (l07Copy_calls _ _ _ s (rdBoxes_mov HB.out HR.out) (rdInts_mov HB.out HG.out) HL.out).mono ?_
    rintro e w1 ⟨mx, gx, D, rfl, ho, hn, hb⟩
    obtain ⟨Am, cm, Ag, cg, D1, D2, rfl, rfl, rfl, hom, hog⟩ := store_slices ho
    have HD2l : Aside (∀ x ∈ D2, w.heap.size + 2 ≤ x) := ⟨fun x hx => by have := (hn.2 x (by simp [hx])).1; omega⟩
    have HNg := Aside.mk (hn.right.from (w0 := w) (by omega))
    have HD2 := Aside.mk (fun x (hx : x ∈ D2) => (hn.2 x (List.mem_append.2 (.inr hx))).2)
    have HOg := Aside.mk hog
    replace L0 := Aside.mk (L0.out.below hb)
    replace L1 := Aside.mk (L1.out.below hb)
    replace HB := Aside.mk (below_step HB.out hb)
    clear hom hog ho hn hb l0 l1 q0 q1 f1
    have q1 := L1.out.lt
    go_upto_region 4 with (fail)
    have HW3 : Aside (w.heap.size + 2 ≤ w1.heap.size) := ⟨by omega⟩
    replace L0 := Aside.mk (L0.out.alloc (.cells #[.int .i64 s.by_, .int .i64 s.tm, .slice Am s.bx.length cm, .slice Ag s.go.length cg] 45))
    replace L1 := Aside.mk (L1.out.alloc (.cells #[.int .i64 s.by_, .int .i64 s.tm, .slice Am s.bx.length cm, .slice Ag s.go.length cg] 45))
    have L3 := Aside.mk (Loc.new w1 #[.int .i64 s.by_, .int .i64 s.tm, .slice Am s.bx.length cm, .slice Ag s.go.length cg] 45)
    have HB2 := Aside.mk (below_alloc HB.out (.cells #[.int .i64 s.by_, .int .i64 s.tm, .slice Am s.bx.length cm, .slice Ag s.go.length cg] 45))
    replace HOg := Aside.mk (owRow_alloc ow_int HOg.out (.cells #[.int .i64 s.by_, .int .i64 s.tm, .slice Am s.bx.length cm, .slice Ag s.go.length cg] 45))
    replace HNg := Aside.mk (HNg.out.alloc (.cells #[.int .i64 s.by_, .int .i64 s.tm, .slice Am s.bx.length cm, .slice Ag s.go.length cg] 45))
    clear HB q1
    obtain ⟨B3, hB3⟩ : ∃ B3, B3 = w1.heap.size := ⟨_, rfl⟩
    rw [← hB3] at L3 HW3 HD2
    obtain ⟨w2, hw2⟩ : ∃ w2, w2 = w1.alloc (.cells #[.int .i64 s.by_, .int .i64 s.tm, .slice Am s.bx.length cm, .slice Ag s.go.length cg] 45) := ⟨_, rfl⟩
    have HSZ : Aside (w2.heap.size = B3 + 1) := ⟨by rw [hw2, hB3]; simp⟩
    have HWB : Aside (w.heap.size ≤ B3) := ⟨by have := HW3.out; omega⟩
    rw [← hw2] at L0 L1 L3 HB2 HOg HNg
    try rw [← hB3]
    try rw [← hw2]
    clear hB3 hw2
    have l3 := L3.out.cells
    have q3 := L3.out.lt
    have f3 := L3.out.free
    go_upto_region 5 with (fail)
    obtain ⟨w3, hw3⟩ : ∃ w3, w3 = (w2.setCell ⟨B3, 2, none⟩ (.slice (some ⟨w2.heap.size, 0, none⟩) 0 0)).alloc (.cells #[] 32) := ⟨_, rfl⟩
    rw [← hw3]
    have n0 : w.heap.size ≠ B3 := by have := HW3.out; omega
    have n1 : w.heap.size + 1 ≠ B3 := by have := HW3.out; omega
    have n5 : w2.heap.size = (w2.setCell ⟨B3, 2, none⟩ (.slice (some ⟨w2.heap.size, 0, none⟩) 0 0)).heap.size := by simp [World.setCell]
    replace L0 : Aside (Loc w3 w.heap.size #[.int .i64 s.by_, .int .i64 s.tm, .slice A0 s.bx.length c0, .slice A1 s.go.length c1] 45) := ⟨by rw [hw3]; exact (L0.out.set (p := ⟨B3, 2, none⟩) n0 _).alloc _⟩
    replace L1 : Aside (Loc w3 (w.heap.size + 1) #[.int .i64 0, .int .i64 0, .slice none 0 0, .slice none 0 0] 45) := ⟨by rw [hw3]; exact (L1.out.set (p := ⟨B3, 2, none⟩) n1 _).alloc _⟩
    replace L3 : Aside (Loc w3 B3 #[.int .i64 s.by_, .int .i64 s.tm, .slice (some ⟨w2.heap.size, 0, none⟩) 0 0, .slice Ag s.go.length cg] 45) := ⟨by rw [hw3]; exact (L3.out.put 2 _).alloc _⟩
    have HO : Aside (owBoxes w3 [w2.heap.size] (.slice (some ⟨w2.heap.size, 0, none⟩) 0 0) []) := ⟨by rw [hw3]; exact owRow_lit0 _ _ n5⟩
    have HN : Aside (New w2 w3 [w2.heap.size]) := ⟨by rw [hw3]; exact new_lit0 w2 _ _ _ n5 (Nat.le_of_eq n5)⟩
    have HKB : Aside (Below B3 w2 w3) := ⟨by
      have hs := HSZ.out
      have h1 : Below B3 w2 (w2.setCell ⟨B3, 2, none⟩ (.slice (some ⟨w2.heap.size, 0, none⟩) 0 0)) := (Below.refl B3 w2).setCell (p := ⟨B3, 2, none⟩) (Nat.le_refl _) _
      rw [hw3]
      exact h1.alloc (by omega) _⟩
    have HS3 : Aside (w3.heap.size = w2.heap.size + 1) := ⟨by rw [hw3]; simp [World.setCell]⟩
    clear hw3 l3 q3 f3 n0 n1 n5
    have l0 := L0.out.cells
    have q0 := L0.out.lt
    go_wp2_with (fail)
    refine (specNextStamp_calls _ s _ _ _ _ _ _ htm0 htm1).mono ?_
    rintro e wt ⟨rfl, hb⟩
    replace L0 := Aside.mk ((L0.out.below hb).alloc (.cells #[.int .i64 g, .string tx, .int .i64 (s.tm + 1), .int .i64 s.by_, .int .i64 1, .slice none 0 0, .slice none 0 0] 32))
    replace L1 := Aside.mk ((L1.out.below hb).alloc (.cells #[.int .i64 g, .string tx, .int .i64 (s.tm + 1), .int .i64 s.by_, .int .i64 1, .slice none 0 0, .slice none 0 0] 32))
    replace L3 := Aside.mk ((L3.out.below hb).alloc (.cells #[.int .i64 g, .string tx, .int .i64 (s.tm + 1), .int .i64 s.by_, .int .i64 1, .slice none 0 0, .slice none 0 0] 32))
    have L5 := Aside.mk (Loc.new wt #[.int .i64 g, .string tx, .int .i64 (s.tm + 1), .int .i64 s.by_, .int .i64 1, .slice none 0 0, .slice none 0 0] 32)
    replace HO := Aside.mk (owRow_alloc ow_box (owRow_below ow_box HO.out hb) (.cells #[.int .i64 g, .string tx, .int .i64 (s.tm + 1), .int .i64 s.by_, .int .i64 1, .slice none 0 0, .slice none 0 0] 32))
    replace HN := Aside.mk ((HN.out.mono hb.size).alloc (.cells #[.int .i64 g, .string tx, .int .i64 (s.tm + 1), .int .i64 s.by_, .int .i64 1, .slice none 0 0, .slice none 0 0] 32))
    replace HKB := Aside.mk (HKB.out.trans ((below_alloc (below_step (Below.refl _ _) hb) (.cells #[.int .i64 g, .string tx, .int .i64 (s.tm + 1), .int .i64 s.by_, .int .i64 1, .slice none 0 0, .slice none 0 0] 32)).mono (by have := HS3.out; have := HSZ.out; omega)))
    have hs5 := hb.size
    obtain ⟨B5, hB5⟩ : ∃ B5, B5 = wt.heap.size := ⟨_, rfl⟩
    rw [← hB5] at L5
    have HB5 : Aside (w2.heap.size < B5) := ⟨by have := HS3.out; omega⟩
    have HD5 : Aside (B5 ∉ [w2.heap.size]) := ⟨by have := HB5.out; simp; omega⟩
    clear hb hs5 l0 q0
    go_upto_region 6 with (fail)
    try rw [← hB5]
    obtain ⟨w5, hw5⟩ : ∃ w5, w5 = wt.alloc (.cells #[.int .i64 g, .string tx, .int .i64 (s.tm + 1), .int .i64 s.by_, .int .i64 1, .slice none 0 0, .slice none 0 0] 32) := ⟨_, rfl⟩
    rw [← hw5] at L0 L1 L3 L5 HO HN HKB
    try rw [← hw5]
    clear hw5 hB5 HS3
    have HB := HB2
    have HK := HB2
    go_wp2
    go_loopw [10] (fun v wr => ∃ (i : Nat) (Av : Option Addr) (cv : Nat) (D : List Nat) (k : List Box), i ≤ s.bx.length ∧ v = .int .i64 i ∧ Aside (k = lowsB g (s.bx.take i)) ∧ Aside (Loc wr w.heap.size #[.int .i64 s.by_, .int .i64 s.tm, .slice A0 s.bx.length c0, .slice A1 s.go.length c1] 45) ∧ Aside (Loc wr (w.heap.size + 1) #[.int .i64 0, .int .i64 0, .slice none 0 0, .slice none 0 0] 45) ∧ Aside (Loc wr B3 #[.int .i64 s.by_, .int .i64 s.tm, .slice Av k.length cv, .slice Ag s.go.length cg] 45) ∧ Aside (Loc wr B5 #[.int .i64 g, .string tx, .int .i64 (s.tm + 1), .int .i64 s.by_, .int .i64 1, .slice none 0 0, .slice none 0 0] 32) ∧ Aside (owBoxes wr D (.slice Av k.length cv) k) ∧ Aside (New w2 wr D) ∧ Aside (B5 ∉ D) ∧ Aside (Below B3 w2 wr)) (fun v _ => s.bx.length - (intOf v).toNat)
    case atStart => exact ⟨0, _, _, [w2.heap.size], [], Nat.zero_le _, rfl, ⟨rfl⟩, L0, L1, L3, L5, HO, HN, HD5, HKB⟩
    case round =>
      clear L0 L1 L3 L5 HO HN HD5 HKB HB HK
      obtain ⟨i, Av, cv, D, k, hi, rfl, HK, L0, L1, L3, L5, HO, HN, HD5, HKB⟩ := hrel
      have HKL : Aside (k.length ≤ 2 * s.bx.length + 1) := ⟨by have := lowsB_len g (s.bx.take i); rw [← HK.out, List.length_take] at this; omega⟩
      have HB : Aside (Below w.heap.size w wr) := ⟨HB2.out.trans (HKB.out.mono HWB.out)⟩
      have l0 := L0.out.cells
      have q0 := L0.out.lt
      have l3 := L3.out.cells
      have q3 := L3.out.lt
      have HS : Aside (w2.heap.size ≤ wr.heap.size) := ⟨by have := L5.out.lt; have := HB5.out; omega⟩
      by_cases hlt : i < s.bx.length
      · obtain ⟨ad, fv, gw, hA, x0, x1, x2, x3, x4, x5, x6, hf, hh⟩ := rdBoxes_at (rdBoxes_mov HB.out HR.out) i hlt
        subst hA
        have HAD : Aside (ad.block < w.heap.size) := ⟨by
          obtain ⟨_, _, _, e, y0, _⟩ := rdBoxes_at HR.out i hlt
          injection e with e
          subst e
          have := World.block_lt_of_cell? w _ y0
          rwa [blk_add] at this⟩
        have hq0 : (0 : Int) ≤ (i : Int) := by omega
        have hq1 : (i : Int) < (s.bx.length : Int) := by omega
        by_cases hg : s.bx[i].g < g
        · have hlm := HL.out.1.2 s.bx[i] (List.getElem_mem hlt)
          have HT2 : Aside (k ++ [s.bx[i]] = lowsB g (s.bx.take (i + 1))) := ⟨by rw [lowsB_yes hlt hg, HK.out]⟩
          generalize s.bx[i] = m at x0 x1 x2 x3 x4 x5 x6 hf hh hlm HT2 hg
          obtain ⟨Af, cf, rfl, _, _⟩ := rd_len hf
          obtain ⟨Ah, ch, rfl, _, _⟩ := rd_len hh
          have HF := Aside.mk hf
          have HH := Aside.mk hh
          have HLM := Aside.mk hlm
          clear hf hh hlm
          go_wp2
          have HDX : Aside (∀ x ∈ D, B3 < x) := ⟨fun x hx => by have := (HN.out.2 x hx).1; have := HSZ.out; omega⟩
          clear l0 l3 q0 q3
          refine zBegin (S := (fun w' => Loc w' w.heap.size #[.int .i64 s.by_, .int .i64 s.tm, .slice (some ad) s.bx.length c0, .slice A1 s.go.length c1] 45 ∧ Loc w' B3 #[.int .i64 s.by_, .int .i64 s.tm, .slice Av k.length cv, .slice Ag s.go.length cg] 45 ∧ w'.cell? (ad.add (i * 7)) = some (.int .i64 m.g) ∧ w'.cell? ⟨(ad.add (i * 7)).block, (ad.add (i * 7)).off + 1, none⟩ = some (.string m.nm) ∧ w'.cell? ⟨(ad.add (i * 7)).block, (ad.add (i * 7)).off + 2, none⟩ = some (.int .i64 m.t) ∧ w'.cell? ⟨(ad.add (i * 7)).block, (ad.add (i * 7)).off + 3, none⟩ = some (.int .i64 m.b) ∧ w'.cell? ⟨(ad.add (i * 7)).block, (ad.add (i * 7)).off + 4, none⟩ = some (.int .i64 m.nx) ∧ w'.cell? ⟨(ad.add (i * 7)).block, (ad.add (i * 7)).off + 5, none⟩ = some (.slice Af m.ml.length cf) ∧ w'.cell? ⟨(ad.add (i * 7)).block, (ad.add (i * 7)).off + 6, none⟩ = some (.slice Ah m.go.length ch))) (z := 11) (by kernel_rfl) (by exact ⟨L0.out.drew', L3.out.drew', x0, x1, x2, x3, x4, x5, x6⟩) (fun hHeld => ?_)
          refine zT 0 52 hHeld ?_
          refine zT 1 53 hHeld ?_
          refine zT 2 54 hHeld ?_
          refine zT 3 55 hHeld ?_
          refine zT 4 56 hHeld ?_
          refine zT 5 57 hHeld ?_
          refine zT 6 58 hHeld ?_
          refine zReady (rs := [7]) (by kernel_rfl) (by simp) ?_
          refine zOne (by decide) rfl (fun K hK => ?_) zNil
          go_simp
          refine (l06Copy_calls _ _ _ m (rdMails_mov (below_drew (Below.refl _ _)) HF.out) (rdInts_mov (below_drew (Below.refl _ _)) HH.out) HLM.out).mono ?_; rintro e wx ⟨fx, gx, Dx, rfl, hox, hnx, hb⟩; obtain ⟨Ax, cx, Ay, cy, _, _, rfl, rfl, _, _, _⟩ := box_parts hox; have HX := Aside.mk hox; have HNX := Aside.mk hnx; have HB1 := Aside.mk (below_step (w0 := wr) (below_drew (Below.refl _ _)) hb); clear hox hnx
          refine hK.out _ _ (by ((repeat' apply And.intro) <;> (first | exact Loc.below hHeld.1 hb | exact Loc.alloc hHeld.1 _ | exact cell_b hb hHeld.1 | exact cell_alloc' hHeld.1 _ | exact below_step hHeld.1 hb | exact below_alloc hHeld.1 _ | exact Loc.below hHeld hb | exact Loc.alloc hHeld _ | exact cell_b hb hHeld | exact cell_alloc' hHeld _ | exact below_step hHeld hb | exact below_alloc hHeld _ | exact Loc.below hHeld.2.1 hb | exact Loc.alloc hHeld.2.1 _ | exact cell_b hb hHeld.2.1 | exact cell_alloc' hHeld.2.1 _ | exact below_step hHeld.2.1 hb | exact below_alloc hHeld.2.1 _ | exact Loc.below hHeld.2 hb | exact Loc.alloc hHeld.2 _ | exact cell_b hb hHeld.2 | exact cell_alloc' hHeld.2 _ | exact below_step hHeld.2 hb | exact below_alloc hHeld.2 _ | exact Loc.below hHeld.2.2.1 hb | exact Loc.alloc hHeld.2.2.1 _ | exact cell_b hb hHeld.2.2.1 | exact cell_alloc' hHeld.2.2.1 _ | exact below_step hHeld.2.2.1 hb | exact below_alloc hHeld.2.2.1 _ | exact Loc.below hHeld.2.2 hb | exact Loc.alloc hHeld.2.2 _ | exact cell_b hb hHeld.2.2 | exact cell_alloc' hHeld.2.2 _ | exact below_step hHeld.2.2 hb | exact below_alloc hHeld.2.2 _ | exact Loc.below hHeld.2.2.2.1 hb | exact Loc.alloc hHeld.2.2.2.1 _ | exact cell_b hb hHeld.2.2.2.1 | exact cell_alloc' hHeld.2.2.2.1 _ | exact below_step hHeld.2.2.2.1 hb | exact below_alloc hHeld.2.2.2.1 _ | exact Loc.below hHeld.2.2.2 hb | exact Loc.alloc hHeld.2.2.2 _ | exact cell_b hb hHeld.2.2.2 | exact cell_alloc' hHeld.2.2.2 _ | exact below_step hHeld.2.2.2 hb | exact below_alloc hHeld.2.2.2 _ | exact Loc.below hHeld.2.2.2.2.1 hb | exact Loc.alloc hHeld.2.2.2.2.1 _ | exact cell_b hb hHeld.2.2.2.2.1 | exact cell_alloc' hHeld.2.2.2.2.1 _ | exact below_step hHeld.2.2.2.2.1 hb | exact below_alloc hHeld.2.2.2.2.1 _ | exact Loc.below hHeld.2.2.2.2 hb | exact Loc.alloc hHeld.2.2.2.2 _ | exact cell_b hb hHeld.2.2.2.2 | exact cell_alloc' hHeld.2.2.2.2 _ | exact below_step hHeld.2.2.2.2 hb | exact below_alloc hHeld.2.2.2.2 _ | exact Loc.below hHeld.2.2.2.2.2.1 hb | exact Loc.alloc hHeld.2.2.2.2.2.1 _ | exact cell_b hb hHeld.2.2.2.2.2.1 | exact cell_alloc' hHeld.2.2.2.2.2.1 _ | exact below_step hHeld.2.2.2.2.2.1 hb | exact below_alloc hHeld.2.2.2.2.2.1 _ | exact Loc.below hHeld.2.2.2.2.2 hb | exact Loc.alloc hHeld.2.2.2.2.2 _ | exact cell_b hb hHeld.2.2.2.2.2 | exact cell_alloc' hHeld.2.2.2.2.2 _ | exact below_step hHeld.2.2.2.2.2 hb | exact below_alloc hHeld.2.2.2.2.2 _ | exact Loc.below hHeld.2.2.2.2.2.2.1 hb | exact Loc.alloc hHeld.2.2.2.2.2.2.1 _ | exact cell_b hb hHeld.2.2.2.2.2.2.1 | exact cell_alloc' hHeld.2.2.2.2.2.2.1 _ | exact below_step hHeld.2.2.2.2.2.2.1 hb | exact below_alloc hHeld.2.2.2.2.2.2.1 _ | exact Loc.below hHeld.2.2.2.2.2.2 hb | exact Loc.alloc hHeld.2.2.2.2.2.2 _ | exact cell_b hb hHeld.2.2.2.2.2.2 | exact cell_alloc' hHeld.2.2.2.2.2.2 _ | exact below_step hHeld.2.2.2.2.2.2 hb | exact below_alloc hHeld.2.2.2.2.2.2 _ | exact Loc.below hHeld.2.2.2.2.2.2.2.1 hb | exact Loc.alloc hHeld.2.2.2.2.2.2.2.1 _ | exact cell_b hb hHeld.2.2.2.2.2.2.2.1 | exact cell_alloc' hHeld.2.2.2.2.2.2.2.1 _ | exact below_step hHeld.2.2.2.2.2.2.2.1 hb | exact below_alloc hHeld.2.2.2.2.2.2.2.1 _ | exact Loc.below hHeld.2.2.2.2.2.2.2 hb | exact Loc.alloc hHeld.2.2.2.2.2.2.2 _ | exact cell_b hb hHeld.2.2.2.2.2.2.2 | exact cell_alloc' hHeld.2.2.2.2.2.2.2 _ | exact below_step hHeld.2.2.2.2.2.2.2 hb | exact below_alloc hHeld.2.2.2.2.2.2.2 _ | exact Loc.below hHeld.2.2.2.2.2.2.2.2.1 hb | exact Loc.alloc hHeld.2.2.2.2.2.2.2.2.1 _ | exact cell_b hb hHeld.2.2.2.2.2.2.2.2.1 | exact cell_alloc' hHeld.2.2.2.2.2.2.2.2.1 _ | exact below_step hHeld.2.2.2.2.2.2.2.2.1 hb | exact below_alloc hHeld.2.2.2.2.2.2.2.2.1 _ | exact Loc.below hHeld.2.2.2.2.2.2.2.2 hb | exact Loc.alloc hHeld.2.2.2.2.2.2.2.2 _ | exact cell_b hb hHeld.2.2.2.2.2.2.2.2 | exact cell_alloc' hHeld.2.2.2.2.2.2.2.2 _ | exact below_step hHeld.2.2.2.2.2.2.2.2 hb | exact below_alloc hHeld.2.2.2.2.2.2.2.2 _))) (fun hHeld => ?_)
          clear hK K
          (try simp only [Act.put, List.setIfInBounds_toArray, List.set_cons_zero, List.set_cons_succ])
          clear hb
          refine zReady (rs := [8]) (by kernel_rfl) (by simp) ?_
          refine zOne (by decide) rfl (fun K hK => ?_) zNil
          go_simp
          refine hK.out _ _ (by ((repeat' apply And.intro) <;> (first | exact Loc.below hHeld.1 hb | exact Loc.alloc hHeld.1 _ | exact cell_b hb hHeld.1 | exact cell_alloc' hHeld.1 _ | exact below_step hHeld.1 hb | exact below_alloc hHeld.1 _ | exact Loc.below hHeld hb | exact Loc.alloc hHeld _ | exact cell_b hb hHeld | exact cell_alloc' hHeld _ | exact below_step hHeld hb | exact below_alloc hHeld _ | exact Loc.below hHeld.2.1 hb | exact Loc.alloc hHeld.2.1 _ | exact cell_b hb hHeld.2.1 | exact cell_alloc' hHeld.2.1 _ | exact below_step hHeld.2.1 hb | exact below_alloc hHeld.2.1 _ | exact Loc.below hHeld.2 hb | exact Loc.alloc hHeld.2 _ | exact cell_b hb hHeld.2 | exact cell_alloc' hHeld.2 _ | exact below_step hHeld.2 hb | exact below_alloc hHeld.2 _ | exact Loc.below hHeld.2.2.1 hb | exact Loc.alloc hHeld.2.2.1 _ | exact cell_b hb hHeld.2.2.1 | exact cell_alloc' hHeld.2.2.1 _ | exact below_step hHeld.2.2.1 hb | exact below_alloc hHeld.2.2.1 _ | exact Loc.below hHeld.2.2 hb | exact Loc.alloc hHeld.2.2 _ | exact cell_b hb hHeld.2.2 | exact cell_alloc' hHeld.2.2 _ | exact below_step hHeld.2.2 hb | exact below_alloc hHeld.2.2 _ | exact Loc.below hHeld.2.2.2.1 hb | exact Loc.alloc hHeld.2.2.2.1 _ | exact cell_b hb hHeld.2.2.2.1 | exact cell_alloc' hHeld.2.2.2.1 _ | exact below_step hHeld.2.2.2.1 hb | exact below_alloc hHeld.2.2.2.1 _ | exact Loc.below hHeld.2.2.2 hb | exact Loc.alloc hHeld.2.2.2 _ | exact cell_b hb hHeld.2.2.2 | exact cell_alloc' hHeld.2.2.2 _ | exact below_step hHeld.2.2.2 hb | exact below_alloc hHeld.2.2.2 _ | exact Loc.below hHeld.2.2.2.2.1 hb | exact Loc.alloc hHeld.2.2.2.2.1 _ | exact cell_b hb hHeld.2.2.2.2.1 | exact cell_alloc' hHeld.2.2.2.2.1 _ | exact below_step hHeld.2.2.2.2.1 hb | exact below_alloc hHeld.2.2.2.2.1 _ | exact Loc.below hHeld.2.2.2.2 hb | exact Loc.alloc hHeld.2.2.2.2 _ | exact cell_b hb hHeld.2.2.2.2 | exact cell_alloc' hHeld.2.2.2.2 _ | exact below_step hHeld.2.2.2.2 hb | exact below_alloc hHeld.2.2.2.2 _ | exact Loc.below hHeld.2.2.2.2.2.1 hb | exact Loc.alloc hHeld.2.2.2.2.2.1 _ | exact cell_b hb hHeld.2.2.2.2.2.1 | exact cell_alloc' hHeld.2.2.2.2.2.1 _ | exact below_step hHeld.2.2.2.2.2.1 hb | exact below_alloc hHeld.2.2.2.2.2.1 _ | exact Loc.below hHeld.2.2.2.2.2 hb | exact Loc.alloc hHeld.2.2.2.2.2 _ | exact cell_b hb hHeld.2.2.2.2.2 | exact cell_alloc' hHeld.2.2.2.2.2 _ | exact below_step hHeld.2.2.2.2.2 hb | exact below_alloc hHeld.2.2.2.2.2 _ | exact Loc.below hHeld.2.2.2.2.2.2.1 hb | exact Loc.alloc hHeld.2.2.2.2.2.2.1 _ | exact cell_b hb hHeld.2.2.2.2.2.2.1 | exact cell_alloc' hHeld.2.2.2.2.2.2.1 _ | exact below_step hHeld.2.2.2.2.2.2.1 hb | exact below_alloc hHeld.2.2.2.2.2.2.1 _ | exact Loc.below hHeld.2.2.2.2.2.2 hb | exact Loc.alloc hHeld.2.2.2.2.2.2 _ | exact cell_b hb hHeld.2.2.2.2.2.2 | exact cell_alloc' hHeld.2.2.2.2.2.2 _ | exact below_step hHeld.2.2.2.2.2.2 hb | exact below_alloc hHeld.2.2.2.2.2.2 _ | exact Loc.below hHeld.2.2.2.2.2.2.2.1 hb | exact Loc.alloc hHeld.2.2.2.2.2.2.2.1 _ | exact cell_b hb hHeld.2.2.2.2.2.2.2.1 | exact cell_alloc' hHeld.2.2.2.2.2.2.2.1 _ | exact below_step hHeld.2.2.2.2.2.2.2.1 hb | exact below_alloc hHeld.2.2.2.2.2.2.2.1 _ | exact Loc.below hHeld.2.2.2.2.2.2.2 hb | exact Loc.alloc hHeld.2.2.2.2.2.2.2 _ | exact cell_b hb hHeld.2.2.2.2.2.2.2 | exact cell_alloc' hHeld.2.2.2.2.2.2.2 _ | exact below_step hHeld.2.2.2.2.2.2.2 hb | exact below_alloc hHeld.2.2.2.2.2.2.2 _ | exact Loc.below hHeld.2.2.2.2.2.2.2.2.1 hb | exact Loc.alloc hHeld.2.2.2.2.2.2.2.2.1 _ | exact cell_b hb hHeld.2.2.2.2.2.2.2.2.1 | exact cell_alloc' hHeld.2.2.2.2.2.2.2.2.1 _ | exact below_step hHeld.2.2.2.2.2.2.2.2.1 hb | exact below_alloc hHeld.2.2.2.2.2.2.2.2.1 _ | exact Loc.below hHeld.2.2.2.2.2.2.2.2 hb | exact Loc.alloc hHeld.2.2.2.2.2.2.2.2 _ | exact cell_b hb hHeld.2.2.2.2.2.2.2.2 | exact cell_alloc' hHeld.2.2.2.2.2.2.2.2 _ | exact below_step hHeld.2.2.2.2.2.2.2.2 hb | exact below_alloc hHeld.2.2.2.2.2.2.2.2 _))) (fun hHeld => ?_)
          clear hK K
          (try simp only [Act.put, List.setIfInBounds_toArray, List.set_cons_zero, List.set_cons_succ])
          refine zReady (rs := [9]) (by kernel_rfl) (by simp) ?_
          refine zOne (by decide) rfl (fun K hK => ?_) zNil
          refine step_snoc el_box ow_box (owRow_below ow_box HO.out (below_alloc HB1.out (.cells #[.int .i64 m.g, .string m.nm, .int .i64 m.t, .int .i64 m.b, .int .i64 m.nx, .slice Ax m.ml.length cx, .slice Ay m.go.length cy] 32))) (ow_below ow_box HX.out (below_alloc (Below.refl _ _) _)) ((New.app HN.out HS.out (HNX.out.from (w0 := wr) (below_drew (Below.refl _ wr)).size) HB1.out.size).alloc _) (w0 := w2) (y := m) (cs := [.int .i64 m.g, .string m.nm, .int .i64 m.t, .int .i64 m.b, .int .i64 m.nx, .slice Ax m.ml.length cx, .slice Ay m.go.length cy]) (by have := HS.out; have := HB1.out.size; simp; omega) (.tmp 53) (.tmp 60) (by rfl) (by rfl) (by rfl) wx.heap.size (by rfl) (Loc.new wx _ _) (by have := HKL.out; have := HLL.out; omega) (by have := HKL.out; have := HLL.out; omega) (wx.heap.size + 1) (by simp) ?_; intro gq cap wy Dq hk1 hk2 hk3 hk; have nd0 : w.heap.size ∉ D := (fun hx => by have := HDX.out _ hx; have := HW3.out; omega); have nd3 : B3 ∉ D := (fun hx => by have := HDX.out _ hx; omega); have nda : (ad.add (i * 7)).block ∉ D := (fun hx => by have := HDX.out _ hx; have := HAD.out; have := HW3.out; rw [blk_add] at *; omega)
          refine hK.out _ _ (by exact ⟨hHeld.1.keep hk nd0, hHeld.2.1.keep hk nd3, cell_keep hHeld.2.2.1 hk nda, cell_keep hHeld.2.2.2.1 hk nda, cell_keep hHeld.2.2.2.2.1 hk nda, cell_keep hHeld.2.2.2.2.2.1 hk nda, cell_keep hHeld.2.2.2.2.2.2.1 hk nda, cell_keep hHeld.2.2.2.2.2.2.2.1 hk nda, cell_keep hHeld.2.2.2.2.2.2.2.2 hk nda⟩) (fun hHeld => ?_)
          clear hK K
          (try simp only [Act.put, List.setIfInBounds_toArray, List.set_cons_zero, List.set_cons_succ])
          have L0b := Aside.mk hHeld.1; have L3b := Aside.mk hHeld.2.1; have HO1 := Aside.mk hk1; have HN1 := Aside.mk hk2; have HM1 := Aside.mk hk3; have HK1 := Aside.mk hk; clear hk1 hk2 hk3 hk nd0 nd3 nda; have l3b := L3b.out.cells; have f3b := L3b.out.free; have k3b := L3b.out.lt
          refine zT 10 62 hHeld ?_
          refine zReady (rs := [11]) (by kernel_rfl) (by simp) ?_
          refine zLast rfl (fun K hK => ?_) zNil
          go_simp
          refine hK.out _ _ ?_
          clear hK K
          (try simp only [Act.put, List.setIfInBounds_toArray, List.set_cons_zero, List.set_cons_succ])
          refine zDone (by kernel_rfl) ?_ _
          clear hHeld
          have nb3 : B3 ≠ w.heap.size := by have := HW3.out; omega
          have L0' : Aside (Loc (wy.setCell ⟨B3, 2, none⟩ (.slice (some ⟨gq, 0, none⟩) (k.length + 1) cap)) w.heap.size #[.int .i64 s.by_, .int .i64 s.tm, .slice (some ad) s.bx.length c0, .slice A1 s.go.length c1] 45) := ⟨L0b.out.set (p := ⟨B3, 2, none⟩) (by show w.heap.size ≠ B3; have := HW3.out; omega) _⟩
          have L1' : Aside (Loc (wy.setCell ⟨B3, 2, none⟩ (.slice (some ⟨gq, 0, none⟩) (k.length + 1) cap)) (w.heap.size + 1) #[.int .i64 0, .int .i64 0, .slice none 0 0, .slice none 0 0] 45) := ⟨(((L1.out.below HB1.out).alloc _).keep HK1.out (fun hx => by have := HDX.out _ hx; have := HW3.out; omega)).set (p := ⟨B3, 2, none⟩) (by show w.heap.size + 1 ≠ B3; have := HW3.out; omega) _⟩
          have L3' : Aside (Loc (wy.setCell ⟨B3, 2, none⟩ (.slice (some ⟨gq, 0, none⟩) (k.length + 1) cap)) B3 #[.int .i64 s.by_, .int .i64 s.tm, .slice (some ⟨gq, 0, none⟩) (k ++ [m]).length cap, .slice Ag s.go.length cg] 45) := ⟨by rw [List.length_append]; exact L3b.out.put 2 _⟩
          have L5' : Aside (Loc (wy.setCell ⟨B3, 2, none⟩ (.slice (some ⟨gq, 0, none⟩) (k.length + 1) cap)) B5 #[.int .i64 g, .string tx, .int .i64 (s.tm + 1), .int .i64 s.by_, .int .i64 1, .slice none 0 0, .slice none 0 0] 32) := ⟨(((L5.out.below HB1.out).alloc _).keep HK1.out HD5.out).set (p := ⟨B3, 2, none⟩) (by show B5 ≠ B3; have := HB5.out; have := HSZ.out; omega) _⟩
          have hn3 : B3 ∉ Dq := fun hx => by have := (HN1.out.2 _ hx).1; have := HSZ.out; omega
          have HO' : Aside (owBoxes (wy.setCell ⟨B3, 2, none⟩ (.slice (some ⟨gq, 0, none⟩) (k.length + 1) cap)) Dq (.slice (some ⟨gq, 0, none⟩) (k ++ [m]).length cap) (k ++ [m])) := ⟨by rw [List.length_append]; exact owRow_set ow_box HO1.out (p := ⟨B3, 2, none⟩) hn3 _⟩
          have HN' : Aside (New w2 (wy.setCell ⟨B3, 2, none⟩ (.slice (some ⟨gq, 0, none⟩) (k.length + 1) cap)) Dq) := ⟨HN1.out.set _ _⟩
          have HD5' : Aside (B5 ∉ Dq) := ⟨fun hx => by
            have h5 := L5.out.lt
            rcases HM1.out _ hx with h | h
            · rcases List.mem_append.1 h with h | h
              · exact HD5.out h
              · have h6 := (HNX.out.2 _ h).1
                have h7 : wr.heap.size ≤ B5 := h6
                omega
            · have := HB1.out.size; omega⟩
          have HK' : Aside (Below B3 w2 (wy.setCell ⟨B3, 2, none⟩ (.slice (some ⟨gq, 0, none⟩) (k.length + 1) cap))) := ⟨by
            have hs := HSZ.out
            have h1 : Below B3 w2 (wx.alloc (.cells #[.int .i64 m.g, .string m.nm, .int .i64 m.t, .int .i64 m.b, .int .i64 m.nx, .slice Ax m.ml.length cx, .slice Ay m.go.length cy] 32)) := HKB.out.trans ((below_alloc HB1.out _).mono (by have := HS.out; omega))
            refine Below.setCell (h1.trans ?_) (p := ⟨B3, 2, none⟩) (Nat.le_refl _) _
            have h2 := HK1.out.below (w0 := w2) (fun b hb => (HN.out.2 b hb).1) (by have := HS.out; have := HB1.out.size; simp; omega)
            exact h2.mono (by omega)⟩
          go_wp2
          go_roundw
          case rel => exact ⟨i + 1, _, _, Dq, _, by omega, by go_num, HT2, L0', L1', L3', L5', HO', HN', HD5', HK'⟩
          case measure => simp [intOf]; omega
        · have HT2 : Aside (k = lowsB g (s.bx.take (i + 1))) := ⟨by rw [lowsB_no hlt hg]; exact HK.out⟩
          generalize s.bx[i].g = mg at x0 hg
          clear x1 x2 x3 x4 x5 x6 hf hh
          go_wp2
          go_roundw
          case rel => exact ⟨i + 1, _, _, D, k, by omega, by go_num, HT2, L0, L1, L3, L5, HO, HN, HD5, HKB⟩
          case measure => simp [intOf]; omega
      · have hil : i = s.bx.length := by omega
        have hge : ¬ ((i : Int) < (s.bx.length : Int)) := by omega
        have HK1 : Aside (k = lowsB g s.bx) := ⟨by rw [HK.out, hil, List.take_length]⟩
        clear HK hil
        have HDX : Aside (∀ x ∈ D, B3 < x) := ⟨fun x hx => by have := (HN.out.2 x hx).1; have := HSZ.out; omega⟩
        have l5 := L5.out.cells
        have q5 := L5.out.lt
        go_wp2_with (at_builtin; refine list_snoc el_box ow_box (owRow_alloc ow_box HO.out (.cells #[.int .i64 g, .string tx, .int .i64 (s.tm + 1), .int .i64 s.by_, .int .i64 1, .slice none 0 0, .slice none 0 0] 32)) (w0 := w2) (y := ⟨g, tx, s.tm + 1, s.by_, 1, [], []⟩) (Dx := []) (cs := [.int .i64 g, .string tx, .int .i64 (s.tm + 1), .int .i64 s.by_, .int .i64 1, .slice none 0 0, .slice none 0 0]) ⟨_, _, [], [], rfl, rfl, ow_nil _ _ _ _, ow_nil _ _ _ _⟩ (by rw [List.append_nil]; exact HN.out.alloc _) (by have := HS.out; simp; omega) (.tmp 64) (.tmp 66) (by rfl) (by rfl) (by rfl) wr.heap.size (by rfl) (Loc.new wr _ _) (by have := HKL.out; have := HLL.out; omega) (by have := HKL.out; have := HLL.out; omega) (wr.heap.size + 1) (by simp) (fun gq cap wy Dq hk1 hk2 hk3 hk => ?_); have HO1 := Aside.mk hk1; have HN1 := Aside.mk hk2; have HM1 := Aside.mk hk3; have HK2 := Aside.mk hk; clear hk1 hk2 hk3 hk l0 l3 l5 q0 q3 q5; have L3b := Aside.mk ((L3.out.alloc (.cells #[.int .i64 g, .string tx, .int .i64 (s.tm + 1), .int .i64 s.by_, .int .i64 1, .slice none 0 0, .slice none 0 0] 32)).keep HK2.out (fun hx => by have := HDX.out _ hx; omega)); have l3 := L3b.out.cells; have q3 := L3b.out.lt; have f3 := L3b.out.free)
        have HX1 : Aside (∀ x ∈ D, x ≠ w.heap.size ∧ x ≠ w.heap.size + 1) := ⟨fun x hx => by have := HDX.out _ hx; have := HW3.out; omega⟩
        have L0' : Aside (Loc (wy.setCell ⟨B3, 2, none⟩ (.slice (some ⟨gq, 0, none⟩) (k.length + 1) cap)) w.heap.size #[.int .i64 s.by_, .int .i64 s.tm, .slice A0 s.bx.length c0, .slice A1 s.go.length c1] 45) := ⟨((L0.out.alloc _).keep HK2.out (fun hx => (HX1.out _ hx).1 rfl)).set (p := ⟨B3, 2, none⟩) (by show w.heap.size ≠ B3; have := HW3.out; omega) _⟩
        have L1' : Aside (Loc (wy.setCell ⟨B3, 2, none⟩ (.slice (some ⟨gq, 0, none⟩) (k.length + 1) cap)) (w.heap.size + 1) #[.int .i64 0, .int .i64 0, .slice none 0 0, .slice none 0 0] 45) := ⟨((L1.out.alloc _).keep HK2.out (fun hx => (HX1.out _ hx).2 rfl)).set (p := ⟨B3, 2, none⟩) (by show w.heap.size + 1 ≠ B3; have := HW3.out; omega) _⟩
        have L3' : Aside (Loc (wy.setCell ⟨B3, 2, none⟩ (.slice (some ⟨gq, 0, none⟩) (k.length + 1) cap)) B3 #[.int .i64 s.by_, .int .i64 s.tm, .slice (some ⟨gq, 0, none⟩) (k ++ [(⟨g, tx, s.tm + 1, s.by_, 1, [], []⟩ : Box)]).length cap, .slice Ag s.go.length cg] 45) := ⟨by rw [List.length_append]; exact L3b.out.put 2 _⟩
        have L5' : Aside (Loc (wy.setCell ⟨B3, 2, none⟩ (.slice (some ⟨gq, 0, none⟩) (k.length + 1) cap)) B5 #[.int .i64 g, .string tx, .int .i64 (s.tm + 1), .int .i64 s.by_, .int .i64 1, .slice none 0 0, .slice none 0 0] 32) := ⟨((L5.out.alloc _).keep HK2.out HD5.out).set (p := ⟨B3, 2, none⟩) (by show B5 ≠ B3; have := HB5.out; have := HSZ.out; omega) _⟩
        have hn3 : B3 ∉ Dq := fun hx => by have := (HN1.out.2 _ hx).1; have := HSZ.out; omega
        have HO' : Aside (owBoxes (wy.setCell ⟨B3, 2, none⟩ (.slice (some ⟨gq, 0, none⟩) (k.length + 1) cap)) Dq (.slice (some ⟨gq, 0, none⟩) (k ++ [(⟨g, tx, s.tm + 1, s.by_, 1, [], []⟩ : Box)]).length cap) (k ++ [(⟨g, tx, s.tm + 1, s.by_, 1, [], []⟩ : Box)])) := ⟨by rw [List.length_append]; exact owRow_set ow_box HO1.out (p := ⟨B3, 2, none⟩) hn3 _⟩
        have HN' : Aside (New w2 (wy.setCell ⟨B3, 2, none⟩ (.slice (some ⟨gq, 0, none⟩) (k.length + 1) cap)) Dq) := ⟨HN1.out.set _ _⟩
        have HD5' : Aside (B5 ∉ Dq) := ⟨fun hx => by
          have h5 := L5.out.lt
          rcases HM1.out _ hx with h | h
          · rw [List.append_nil] at h; exact HD5.out h
          · omega⟩
        have HK' : Aside (Below B3 w2 (wy.setCell ⟨B3, 2, none⟩ (.slice (some ⟨gq, 0, none⟩) (k.length + 1) cap))) := ⟨by
          have hs := HSZ.out
          have h1 : Below B3 w2 (wr.alloc (.cells #[.int .i64 g, .string tx, .int .i64 (s.tm + 1), .int .i64 s.by_, .int .i64 1, .slice none 0 0, .slice none 0 0] 32)) := HKB.out.trans ((below_alloc (Below.refl _ _) _).mono (by have := HS.out; omega))
          refine Below.setCell (h1.trans ?_) (p := ⟨B3, 2, none⟩) (Nat.le_refl _) _
          have h2 := HK2.out.below (w0 := w2) (fun b hb => (HN.out.2 b hb).1) (by have := HS.out; simp; omega)
          exact h2.mono (by omega)⟩
        clear L0 L1 L3 L5 HO HN HD5 HKB HB HO1 HN1 HM1 HK2 L3b l3 q3 f3 hn3 HDX HX1 HKL HS
        have L0 := L0'; have L1 := L1'; have L3 := L3'; have L5 := L5'; have HO := HO'; have HN := HN'; have HD5 := HD5'; have HKB := HK'; have HB := HB2; have HK := HK1
        go_loopw [11] (fun v wr => ∃ (i : Nat) (Av : Option Addr) (cv : Nat) (D : List Nat) (k : List Box), i ≤ s.bx.length ∧ v = .int .i64 i ∧ Aside (k = lowsB g s.bx ++ ⟨g, tx, s.tm + 1, s.by_, 1, [], []⟩ :: highsB g (s.bx.take i)) ∧ Aside (Loc wr w.heap.size #[.int .i64 s.by_, .int .i64 s.tm, .slice A0 s.bx.length c0, .slice A1 s.go.length c1] 45) ∧ Aside (Loc wr (w.heap.size + 1) #[.int .i64 0, .int .i64 0, .slice none 0 0, .slice none 0 0] 45) ∧ Aside (Loc wr B3 #[.int .i64 s.by_, .int .i64 s.tm, .slice Av k.length cv, .slice Ag s.go.length cg] 45) ∧ Aside (Loc wr B5 #[.int .i64 g, .string tx, .int .i64 (s.tm + 1), .int .i64 s.by_, .int .i64 1, .slice none 0 0, .slice none 0 0] 32) ∧ Aside (owBoxes wr D (.slice Av k.length cv) k) ∧ Aside (New w2 wr D) ∧ Aside (B5 ∉ D) ∧ Aside (Below B3 w2 wr)) (fun v _ => s.bx.length - (intOf v).toNat)
        case atStart => exact ⟨0, _, _, Dq, _, Nat.zero_le _, rfl, ⟨by rw [HK1.out]; rfl⟩, L0', L1', L3', L5', HO', HN', HD5', HK'⟩
        case round =>
          clear L0 L1 L3 L5 HO HN HD5 HKB HB HK
          obtain ⟨i, Av, cv, D, k, hi, rfl, HK, L0, L1, L3, L5, HO, HN, HD5, HKB⟩ := hrel
          have HKL : Aside (k.length ≤ 2 * s.bx.length + 1) := ⟨by have h1 := lowsB_len g s.bx; have h2 := highsB_len g (s.bx.take i); rw [List.length_take] at h2; rw [HK.out]; simp only [List.length_append, List.length_cons]; omega⟩
          have HB : Aside (Below w.heap.size w wr) := ⟨HB2.out.trans (HKB.out.mono HWB.out)⟩
          have l0 := L0.out.cells
          have q0 := L0.out.lt
          have l3 := L3.out.cells
          have q3 := L3.out.lt
          have HS : Aside (w2.heap.size ≤ wr.heap.size) := ⟨by have := L5.out.lt; have := HB5.out; omega⟩
          by_cases hlt : i < s.bx.length
          · obtain ⟨ad, fv, gw, hA, x0, x1, x2, x3, x4, x5, x6, hf, hh⟩ := rdBoxes_at (rdBoxes_mov HB.out HR.out) i hlt
            subst hA
            have HAD : Aside (ad.block < w.heap.size) := ⟨by
              obtain ⟨_, _, _, e, y0, _⟩ := rdBoxes_at HR.out i hlt
              injection e with e
              subst e
              have := World.block_lt_of_cell? w _ y0
              rwa [blk_add] at this⟩
            have hq0 : (0 : Int) ≤ (i : Int) := by omega
            have hq1 : (i : Int) < (s.bx.length : Int) := by omega
            by_cases hg : g < s.bx[i].g
            · have hlm := HL.out.1.2 s.bx[i] (List.getElem_mem hlt)
              have HT2 : Aside (k ++ [s.bx[i]] = lowsB g s.bx ++ ⟨g, tx, s.tm + 1, s.by_, 1, [], []⟩ :: highsB g (s.bx.take (i + 1))) := ⟨by rw [highsB_yes hlt hg, HK.out]; simp⟩
              generalize s.bx[i] = m at x0 x1 x2 x3 x4 x5 x6 hf hh hlm HT2 hg
              obtain ⟨Af, cf, rfl, _, _⟩ := rd_len hf
              obtain ⟨Ah, ch, rfl, _, _⟩ := rd_len hh
              have HF := Aside.mk hf
              have HH := Aside.mk hh
              have HLM := Aside.mk hlm
              clear hf hh hlm
              go_wp2
              have HDX : Aside (∀ x ∈ D, B3 < x) := ⟨fun x hx => by have := (HN.out.2 x hx).1; have := HSZ.out; omega⟩
              clear l0 l3 q0 q3
              refine zBegin (S := (fun w' => Loc w' w.heap.size #[.int .i64 s.by_, .int .i64 s.tm, .slice (some ad) s.bx.length c0, .slice A1 s.go.length c1] 45 ∧ Loc w' B3 #[.int .i64 s.by_, .int .i64 s.tm, .slice Av k.length cv, .slice Ag s.go.length cg] 45 ∧ w'.cell? (ad.add (i * 7)) = some (.int .i64 m.g) ∧ w'.cell? ⟨(ad.add (i * 7)).block, (ad.add (i * 7)).off + 1, none⟩ = some (.string m.nm) ∧ w'.cell? ⟨(ad.add (i * 7)).block, (ad.add (i * 7)).off + 2, none⟩ = some (.int .i64 m.t) ∧ w'.cell? ⟨(ad.add (i * 7)).block, (ad.add (i * 7)).off + 3, none⟩ = some (.int .i64 m.b) ∧ w'.cell? ⟨(ad.add (i * 7)).block, (ad.add (i * 7)).off + 4, none⟩ = some (.int .i64 m.nx) ∧ w'.cell? ⟨(ad.add (i * 7)).block, (ad.add (i * 7)).off + 5, none⟩ = some (.slice Af m.ml.length cf) ∧ w'.cell? ⟨(ad.add (i * 7)).block, (ad.add (i * 7)).off + 6, none⟩ = some (.slice Ah m.go.length ch))) (z := 11) (by kernel_rfl) (by exact ⟨L0.out.drew', L3.out.drew', x0, x1, x2, x3, x4, x5, x6⟩) (fun hHeld => ?_)
              refine zT 0 84 hHeld ?_
              refine zT 1 85 hHeld ?_
              refine zT 2 86 hHeld ?_
              refine zT 3 87 hHeld ?_
              refine zT 4 88 hHeld ?_
              refine zT 5 89 hHeld ?_
              refine zT 6 90 hHeld ?_
              refine zReady (rs := [7]) (by kernel_rfl) (by simp) ?_
              refine zOne (by decide) rfl (fun K hK => ?_) zNil
              go_simp
              refine (l06Copy_calls _ _ _ m (rdMails_mov (below_drew (Below.refl _ _)) HF.out) (rdInts_mov (below_drew (Below.refl _ _)) HH.out) HLM.out).mono ?_; rintro e wx ⟨fx, gx, Dx, rfl, hox, hnx, hb⟩; obtain ⟨Ax, cx, Ay, cy, _, _, rfl, rfl, _, _, _⟩ := box_parts hox; have HX := Aside.mk hox; have HNX := Aside.mk hnx; have HB1 := Aside.mk (below_step (w0 := wr) (below_drew (Below.refl _ _)) hb); clear hox hnx
              refine hK.out _ _ (by ((repeat' apply And.intro) <;> (first | exact Loc.below hHeld.1 hb | exact Loc.alloc hHeld.1 _ | exact cell_b hb hHeld.1 | exact cell_alloc' hHeld.1 _ | exact below_step hHeld.1 hb | exact below_alloc hHeld.1 _ | exact Loc.below hHeld hb | exact Loc.alloc hHeld _ | exact cell_b hb hHeld | exact cell_alloc' hHeld _ | exact below_step hHeld hb | exact below_alloc hHeld _ | exact Loc.below hHeld.2.1 hb | exact Loc.alloc hHeld.2.1 _ | exact cell_b hb hHeld.2.1 | exact cell_alloc' hHeld.2.1 _ | exact below_step hHeld.2.1 hb | exact below_alloc hHeld.2.1 _ | exact Loc.below hHeld.2 hb | exact Loc.alloc hHeld.2 _ | exact cell_b hb hHeld.2 | exact cell_alloc' hHeld.2 _ | exact below_step hHeld.2 hb | exact below_alloc hHeld.2 _ | exact Loc.below hHeld.2.2.1 hb | exact Loc.alloc hHeld.2.2.1 _ | exact cell_b hb hHeld.2.2.1 | exact cell_alloc' hHeld.2.2.1 _ | exact below_step hHeld.2.2.1 hb | exact below_alloc hHeld.2.2.1 _ | exact Loc.below hHeld.2.2 hb | exact Loc.alloc hHeld.2.2 _ | exact cell_b hb hHeld.2.2 | exact cell_alloc' hHeld.2.2 _ | exact below_step hHeld.2.2 hb | exact below_alloc hHeld.2.2 _ | exact Loc.below hHeld.2.2.2.1 hb | exact Loc.alloc hHeld.2.2.2.1 _ | exact cell_b hb hHeld.2.2.2.1 | exact cell_alloc' hHeld.2.2.2.1 _ | exact below_step hHeld.2.2.2.1 hb | exact below_alloc hHeld.2.2.2.1 _ | exact Loc.below hHeld.2.2.2 hb | exact Loc.alloc hHeld.2.2.2 _ | exact cell_b hb hHeld.2.2.2 | exact cell_alloc' hHeld.2.2.2 _ | exact below_step hHeld.2.2.2 hb | exact below_alloc hHeld.2.2.2 _ | exact Loc.below hHeld.2.2.2.2.1 hb | exact Loc.alloc hHeld.2.2.2.2.1 _ | exact cell_b hb hHeld.2.2.2.2.1 | exact cell_alloc' hHeld.2.2.2.2.1 _ | exact below_step hHeld.2.2.2.2.1 hb | exact below_alloc hHeld.2.2.2.2.1 _ | exact Loc.below hHeld.2.2.2.2 hb | exact Loc.alloc hHeld.2.2.2.2 _ | exact cell_b hb hHeld.2.2.2.2 | exact cell_alloc' hHeld.2.2.2.2 _ | exact below_step hHeld.2.2.2.2 hb | exact below_alloc hHeld.2.2.2.2 _ | exact Loc.below hHeld.2.2.2.2.2.1 hb | exact Loc.alloc hHeld.2.2.2.2.2.1 _ | exact cell_b hb hHeld.2.2.2.2.2.1 | exact cell_alloc' hHeld.2.2.2.2.2.1 _ | exact below_step hHeld.2.2.2.2.2.1 hb | exact below_alloc hHeld.2.2.2.2.2.1 _ | exact Loc.below hHeld.2.2.2.2.2 hb | exact Loc.alloc hHeld.2.2.2.2.2 _ | exact cell_b hb hHeld.2.2.2.2.2 | exact cell_alloc' hHeld.2.2.2.2.2 _ | exact below_step hHeld.2.2.2.2.2 hb | exact below_alloc hHeld.2.2.2.2.2 _ | exact Loc.below hHeld.2.2.2.2.2.2.1 hb | exact Loc.alloc hHeld.2.2.2.2.2.2.1 _ | exact cell_b hb hHeld.2.2.2.2.2.2.1 | exact cell_alloc' hHeld.2.2.2.2.2.2.1 _ | exact below_step hHeld.2.2.2.2.2.2.1 hb | exact below_alloc hHeld.2.2.2.2.2.2.1 _ | exact Loc.below hHeld.2.2.2.2.2.2 hb | exact Loc.alloc hHeld.2.2.2.2.2.2 _ | exact cell_b hb hHeld.2.2.2.2.2.2 | exact cell_alloc' hHeld.2.2.2.2.2.2 _ | exact below_step hHeld.2.2.2.2.2.2 hb | exact below_alloc hHeld.2.2.2.2.2.2 _ | exact Loc.below hHeld.2.2.2.2.2.2.2.1 hb | exact Loc.alloc hHeld.2.2.2.2.2.2.2.1 _ | exact cell_b hb hHeld.2.2.2.2.2.2.2.1 | exact cell_alloc' hHeld.2.2.2.2.2.2.2.1 _ | exact below_step hHeld.2.2.2.2.2.2.2.1 hb | exact below_alloc hHeld.2.2.2.2.2.2.2.1 _ | exact Loc.below hHeld.2.2.2.2.2.2.2 hb | exact Loc.alloc hHeld.2.2.2.2.2.2.2 _ | exact cell_b hb hHeld.2.2.2.2.2.2.2 | exact cell_alloc' hHeld.2.2.2.2.2.2.2 _ | exact below_step hHeld.2.2.2.2.2.2.2 hb | exact below_alloc hHeld.2.2.2.2.2.2.2 _ | exact Loc.below hHeld.2.2.2.2.2.2.2.2.1 hb | exact Loc.alloc hHeld.2.2.2.2.2.2.2.2.1 _ | exact cell_b hb hHeld.2.2.2.2.2.2.2.2.1 | exact cell_alloc' hHeld.2.2.2.2.2.2.2.2.1 _ | exact below_step hHeld.2.2.2.2.2.2.2.2.1 hb | exact below_alloc hHeld.2.2.2.2.2.2.2.2.1 _ | exact Loc.below hHeld.2.2.2.2.2.2.2.2 hb | exact Loc.alloc hHeld.2.2.2.2.2.2.2.2 _ | exact cell_b hb hHeld.2.2.2.2.2.2.2.2 | exact cell_alloc' hHeld.2.2.2.2.2.2.2.2 _ | exact below_step hHeld.2.2.2.2.2.2.2.2 hb | exact below_alloc hHeld.2.2.2.2.2.2.2.2 _))) (fun hHeld => ?_)
              clear hK K
              (try simp only [Act.put, List.setIfInBounds_toArray, List.set_cons_zero, List.set_cons_succ])
              clear hb
              refine zReady (rs := [8]) (by kernel_rfl) (by simp) ?_
              refine zOne (by decide) rfl (fun K hK => ?_) zNil
              go_simp
              refine hK.out _ _ (by ((repeat' apply And.intro) <;> (first | exact Loc.below hHeld.1 hb | exact Loc.alloc hHeld.1 _ | exact cell_b hb hHeld.1 | exact cell_alloc' hHeld.1 _ | exact below_step hHeld.1 hb | exact below_alloc hHeld.1 _ | exact Loc.below hHeld hb | exact Loc.alloc hHeld _ | exact cell_b hb hHeld | exact cell_alloc' hHeld _ | exact below_step hHeld hb | exact below_alloc hHeld _ | exact Loc.below hHeld.2.1 hb | exact Loc.alloc hHeld.2.1 _ | exact cell_b hb hHeld.2.1 | exact cell_alloc' hHeld.2.1 _ | exact below_step hHeld.2.1 hb | exact below_alloc hHeld.2.1 _ | exact Loc.below hHeld.2 hb | exact Loc.alloc hHeld.2 _ | exact cell_b hb hHeld.2 | exact cell_alloc' hHeld.2 _ | exact below_step hHeld.2 hb | exact below_alloc hHeld.2 _ | exact Loc.below hHeld.2.2.1 hb | exact Loc.alloc hHeld.2.2.1 _ | exact cell_b hb hHeld.2.2.1 | exact cell_alloc' hHeld.2.2.1 _ | exact below_step hHeld.2.2.1 hb | exact below_alloc hHeld.2.2.1 _ | exact Loc.below hHeld.2.2 hb | exact Loc.alloc hHeld.2.2 _ | exact cell_b hb hHeld.2.2 | exact cell_alloc' hHeld.2.2 _ | exact below_step hHeld.2.2 hb | exact below_alloc hHeld.2.2 _ | exact Loc.below hHeld.2.2.2.1 hb | exact Loc.alloc hHeld.2.2.2.1 _ | exact cell_b hb hHeld.2.2.2.1 | exact cell_alloc' hHeld.2.2.2.1 _ | exact below_step hHeld.2.2.2.1 hb | exact below_alloc hHeld.2.2.2.1 _ | exact Loc.below hHeld.2.2.2 hb | exact Loc.alloc hHeld.2.2.2 _ | exact cell_b hb hHeld.2.2.2 | exact cell_alloc' hHeld.2.2.2 _ | exact below_step hHeld.2.2.2 hb | exact below_alloc hHeld.2.2.2 _ | exact Loc.below hHeld.2.2.2.2.1 hb | exact Loc.alloc hHeld.2.2.2.2.1 _ | exact cell_b hb hHeld.2.2.2.2.1 | exact cell_alloc' hHeld.2.2.2.2.1 _ | exact below_step hHeld.2.2.2.2.1 hb | exact below_alloc hHeld.2.2.2.2.1 _ | exact Loc.below hHeld.2.2.2.2 hb | exact Loc.alloc hHeld.2.2.2.2 _ | exact cell_b hb hHeld.2.2.2.2 | exact cell_alloc' hHeld.2.2.2.2 _ | exact below_step hHeld.2.2.2.2 hb | exact below_alloc hHeld.2.2.2.2 _ | exact Loc.below hHeld.2.2.2.2.2.1 hb | exact Loc.alloc hHeld.2.2.2.2.2.1 _ | exact cell_b hb hHeld.2.2.2.2.2.1 | exact cell_alloc' hHeld.2.2.2.2.2.1 _ | exact below_step hHeld.2.2.2.2.2.1 hb | exact below_alloc hHeld.2.2.2.2.2.1 _ | exact Loc.below hHeld.2.2.2.2.2 hb | exact Loc.alloc hHeld.2.2.2.2.2 _ | exact cell_b hb hHeld.2.2.2.2.2 | exact cell_alloc' hHeld.2.2.2.2.2 _ | exact below_step hHeld.2.2.2.2.2 hb | exact below_alloc hHeld.2.2.2.2.2 _ | exact Loc.below hHeld.2.2.2.2.2.2.1 hb | exact Loc.alloc hHeld.2.2.2.2.2.2.1 _ | exact cell_b hb hHeld.2.2.2.2.2.2.1 | exact cell_alloc' hHeld.2.2.2.2.2.2.1 _ | exact below_step hHeld.2.2.2.2.2.2.1 hb | exact below_alloc hHeld.2.2.2.2.2.2.1 _ | exact Loc.below hHeld.2.2.2.2.2.2 hb | exact Loc.alloc hHeld.2.2.2.2.2.2 _ | exact cell_b hb hHeld.2.2.2.2.2.2 | exact cell_alloc' hHeld.2.2.2.2.2.2 _ | exact below_step hHeld.2.2.2.2.2.2 hb | exact below_alloc hHeld.2.2.2.2.2.2 _ | exact Loc.below hHeld.2.2.2.2.2.2.2.1 hb | exact Loc.alloc hHeld.2.2.2.2.2.2.2.1 _ | exact cell_b hb hHeld.2.2.2.2.2.2.2.1 | exact cell_alloc' hHeld.2.2.2.2.2.2.2.1 _ | exact below_step hHeld.2.2.2.2.2.2.2.1 hb | exact below_alloc hHeld.2.2.2.2.2.2.2.1 _ | exact Loc.below hHeld.2.2.2.2.2.2.2 hb | exact Loc.alloc hHeld.2.2.2.2.2.2.2 _ | exact cell_b hb hHeld.2.2.2.2.2.2.2 | exact cell_alloc' hHeld.2.2.2.2.2.2.2 _ | exact below_step hHeld.2.2.2.2.2.2.2 hb | exact below_alloc hHeld.2.2.2.2.2.2.2 _ | exact Loc.below hHeld.2.2.2.2.2.2.2.2.1 hb | exact Loc.alloc hHeld.2.2.2.2.2.2.2.2.1 _ | exact cell_b hb hHeld.2.2.2.2.2.2.2.2.1 | exact cell_alloc' hHeld.2.2.2.2.2.2.2.2.1 _ | exact below_step hHeld.2.2.2.2.2.2.2.2.1 hb | exact below_alloc hHeld.2.2.2.2.2.2.2.2.1 _ | exact Loc.below hHeld.2.2.2.2.2.2.2.2 hb | exact Loc.alloc hHeld.2.2.2.2.2.2.2.2 _ | exact cell_b hb hHeld.2.2.2.2.2.2.2.2 | exact cell_alloc' hHeld.2.2.2.2.2.2.2.2 _ | exact below_step hHeld.2.2.2.2.2.2.2.2 hb | exact below_alloc hHeld.2.2.2.2.2.2.2.2 _))) (fun hHeld => ?_)
              clear hK K
              (try simp only [Act.put, List.setIfInBounds_toArray, List.set_cons_zero, List.set_cons_succ])
              refine zReady (rs := [9]) (by kernel_rfl) (by simp) ?_
              refine zOne (by decide) rfl (fun K hK => ?_) zNil
              refine step_snoc el_box ow_box (owRow_below ow_box HO.out (below_alloc HB1.out (.cells #[.int .i64 m.g, .string m.nm, .int .i64 m.t, .int .i64 m.b, .int .i64 m.nx, .slice Ax m.ml.length cx, .slice Ay m.go.length cy] 32))) (ow_below ow_box HX.out (below_alloc (Below.refl _ _) _)) ((New.app HN.out HS.out (HNX.out.from (w0 := wr) (below_drew (Below.refl _ wr)).size) HB1.out.size).alloc _) (w0 := w2) (y := m) (cs := [.int .i64 m.g, .string m.nm, .int .i64 m.t, .int .i64 m.b, .int .i64 m.nx, .slice Ax m.ml.length cx, .slice Ay m.go.length cy]) (by have := HS.out; have := HB1.out.size; simp; omega) (.tmp 85) (.tmp 92) (by rfl) (by rfl) (by rfl) wx.heap.size (by rfl) (Loc.new wx _ _) (by have := HKL.out; have := HLL.out; omega) (by have := HKL.out; have := HLL.out; omega) (wx.heap.size + 1) (by simp) ?_; intro gq cap wy Dq hk1 hk2 hk3 hk; have nd0 : w.heap.size ∉ D := (fun hx => by have := HDX.out _ hx; have := HW3.out; omega); have nd3 : B3 ∉ D := (fun hx => by have := HDX.out _ hx; omega); have nda : (ad.add (i * 7)).block ∉ D := (fun hx => by have := HDX.out _ hx; have := HAD.out; have := HW3.out; rw [blk_add] at *; omega)
              refine hK.out _ _ (by exact ⟨hHeld.1.keep hk nd0, hHeld.2.1.keep hk nd3, cell_keep hHeld.2.2.1 hk nda, cell_keep hHeld.2.2.2.1 hk nda, cell_keep hHeld.2.2.2.2.1 hk nda, cell_keep hHeld.2.2.2.2.2.1 hk nda, cell_keep hHeld.2.2.2.2.2.2.1 hk nda, cell_keep hHeld.2.2.2.2.2.2.2.1 hk nda, cell_keep hHeld.2.2.2.2.2.2.2.2 hk nda⟩) (fun hHeld => ?_)
              clear hK K
              (try simp only [Act.put, List.setIfInBounds_toArray, List.set_cons_zero, List.set_cons_succ])
              have L0b := Aside.mk hHeld.1; have L3b := Aside.mk hHeld.2.1; have HO1 := Aside.mk hk1; have HN1 := Aside.mk hk2; have HM1 := Aside.mk hk3; have HK1 := Aside.mk hk; clear hk1 hk2 hk3 hk nd0 nd3 nda; have l3b := L3b.out.cells; have f3b := L3b.out.free; have k3b := L3b.out.lt
              refine zT 10 94 hHeld ?_
              refine zReady (rs := [11]) (by kernel_rfl) (by simp) ?_
              refine zLast rfl (fun K hK => ?_) zNil
              go_simp
              refine hK.out _ _ ?_
              clear hK K
              (try simp only [Act.put, List.setIfInBounds_toArray, List.set_cons_zero, List.set_cons_succ])
              refine zDone (by kernel_rfl) ?_ _
              clear hHeld
              have nb3 : B3 ≠ w.heap.size := by have := HW3.out; omega
              have L0' : Aside (Loc (wy.setCell ⟨B3, 2, none⟩ (.slice (some ⟨gq, 0, none⟩) (k.length + 1) cap)) w.heap.size #[.int .i64 s.by_, .int .i64 s.tm, .slice (some ad) s.bx.length c0, .slice A1 s.go.length c1] 45) := ⟨L0b.out.set (p := ⟨B3, 2, none⟩) (by show w.heap.size ≠ B3; have := HW3.out; omega) _⟩
              have L1' : Aside (Loc (wy.setCell ⟨B3, 2, none⟩ (.slice (some ⟨gq, 0, none⟩) (k.length + 1) cap)) (w.heap.size + 1) #[.int .i64 0, .int .i64 0, .slice none 0 0, .slice none 0 0] 45) := ⟨(((L1.out.below HB1.out).alloc _).keep HK1.out (fun hx => by have := HDX.out _ hx; have := HW3.out; omega)).set (p := ⟨B3, 2, none⟩) (by show w.heap.size + 1 ≠ B3; have := HW3.out; omega) _⟩
              have L3' : Aside (Loc (wy.setCell ⟨B3, 2, none⟩ (.slice (some ⟨gq, 0, none⟩) (k.length + 1) cap)) B3 #[.int .i64 s.by_, .int .i64 s.tm, .slice (some ⟨gq, 0, none⟩) (k ++ [m]).length cap, .slice Ag s.go.length cg] 45) := ⟨by rw [List.length_append]; exact L3b.out.put 2 _⟩
              have L5' : Aside (Loc (wy.setCell ⟨B3, 2, none⟩ (.slice (some ⟨gq, 0, none⟩) (k.length + 1) cap)) B5 #[.int .i64 g, .string tx, .int .i64 (s.tm + 1), .int .i64 s.by_, .int .i64 1, .slice none 0 0, .slice none 0 0] 32) := ⟨(((L5.out.below HB1.out).alloc _).keep HK1.out HD5.out).set (p := ⟨B3, 2, none⟩) (by show B5 ≠ B3; have := HB5.out; have := HSZ.out; omega) _⟩
              have hn3 : B3 ∉ Dq := fun hx => by have := (HN1.out.2 _ hx).1; have := HSZ.out; omega
              have HO' : Aside (owBoxes (wy.setCell ⟨B3, 2, none⟩ (.slice (some ⟨gq, 0, none⟩) (k.length + 1) cap)) Dq (.slice (some ⟨gq, 0, none⟩) (k ++ [m]).length cap) (k ++ [m])) := ⟨by rw [List.length_append]; exact owRow_set ow_box HO1.out (p := ⟨B3, 2, none⟩) hn3 _⟩
              have HN' : Aside (New w2 (wy.setCell ⟨B3, 2, none⟩ (.slice (some ⟨gq, 0, none⟩) (k.length + 1) cap)) Dq) := ⟨HN1.out.set _ _⟩
              have HD5' : Aside (B5 ∉ Dq) := ⟨fun hx => by
                have h5 := L5.out.lt
                rcases HM1.out _ hx with h | h
                · rcases List.mem_append.1 h with h | h
                  · exact HD5.out h
                  · have h6 := (HNX.out.2 _ h).1
                    have h7 : wr.heap.size ≤ B5 := h6
                    omega
                · have := HB1.out.size; omega⟩
              have HK' : Aside (Below B3 w2 (wy.setCell ⟨B3, 2, none⟩ (.slice (some ⟨gq, 0, none⟩) (k.length + 1) cap))) := ⟨by
                have hs := HSZ.out
                have h1 : Below B3 w2 (wx.alloc (.cells #[.int .i64 m.g, .string m.nm, .int .i64 m.t, .int .i64 m.b, .int .i64 m.nx, .slice Ax m.ml.length cx, .slice Ay m.go.length cy] 32)) := HKB.out.trans ((below_alloc HB1.out _).mono (by have := HS.out; omega))
                refine Below.setCell (h1.trans ?_) (p := ⟨B3, 2, none⟩) (Nat.le_refl _) _
                have h2 := HK1.out.below (w0 := w2) (fun b hb => (HN.out.2 b hb).1) (by have := HS.out; have := HB1.out.size; simp; omega)
                exact h2.mono (by omega)⟩
              go_wp2
              go_roundw
              case rel => exact ⟨i + 1, _, _, Dq, _, by omega, by go_num, HT2, L0', L1', L3', L5', HO', HN', HD5', HK'⟩
              case measure => simp [intOf]; omega
            · have HT2 : Aside (k = lowsB g s.bx ++ ⟨g, tx, s.tm + 1, s.by_, 1, [], []⟩ :: highsB g (s.bx.take (i + 1))) := ⟨by rw [highsB_no hlt hg]; exact HK.out⟩
              generalize s.bx[i].g = mg at x0 hg
              clear x1 x2 x3 x4 x5 x6 hf hh
              go_wp2
              go_roundw
              case rel => exact ⟨i + 1, _, _, D, k, by omega, by go_num, HT2, L0, L1, L3, L5, HO, HN, HD5, HKB⟩
              case measure => simp [intOf]; omega
          · have hil : i = s.bx.length := by omega
            have hge : ¬ ((i : Int) < (s.bx.length : Int)) := by omega
            have HNB : Aside (addBox ⟨g, tx, s.tm + 1, s.by_, 1, [], []⟩ s.bx = k) := ⟨by rw [HK.out, hil, List.take_length]; rfl⟩
            clear HK hil
            have f3 := L3.out.free
            go_wp2_with (fail)
            have HW3' := HW3.out
            have hm0 : w.heap.size ≠ B3 := by omega
            have hm1 : w.heap.size + 1 ≠ B3 := by omega
            have hN3 : B3 ∉ D := fun hx => by have := (HN.out.2 _ hx).1; have := HSZ.out; omega
            have hN2 : B3 ∉ D2 := fun hx => by have := HD2.out _ hx; omega
            obtain ⟨w8, hw8⟩ : ∃ w8, w8 = wr.setCell ⟨B3, 1, none⟩ (.int .i64 (s.tm + 1)) := ⟨_, rfl⟩
            try rw [← hw8]
            have HOg0 : owInts wr D2 (.slice Ag s.go.length cg) s.go := owRow_mov ow_int HOg.out fun b hb => HKB.out.block b (HD2.out b hb)
            have HOg8 : Aside (owInts w8 D2 (.slice Ag s.go.length cg) s.go) := ⟨by rw [hw8]; exact owRow_set ow_int HOg0 (p := ⟨B3, 1, none⟩) hN2 _⟩
            have HOm8 : Aside (owBoxes w8 D (.slice Av k.length cv) k) := ⟨by rw [hw8]; exact owRow_set ow_box HO.out (p := ⟨B3, 1, none⟩) hN3 _⟩
            have L08 : Aside (Loc w8 w.heap.size #[.int .i64 s.by_, .int .i64 s.tm, .slice A0 s.bx.length c0, .slice A1 s.go.length c1] 45) := ⟨by rw [hw8]; exact L0.out.set (p := ⟨B3, 1, none⟩) hm0 _⟩
            have L18 : Aside (Loc w8 (w.heap.size + 1) #[.int .i64 0, .int .i64 0, .slice none 0 0, .slice none 0 0] 45) := ⟨by rw [hw8]; exact L1.out.set (p := ⟨B3, 1, none⟩) hm1 _⟩
            have L38 : Aside (Loc w8 B3 #[.int .i64 s.by_, .int .i64 (s.tm + 1), .slice Av k.length cv, .slice Ag s.go.length cg] 45) := ⟨by rw [hw8]; exact L3.out.put 1 _⟩
            have HNd : Aside (New w w8 (D ++ D2)) := ⟨by
              have h1 : w8.heap.size = wr.heap.size := by rw [hw8]; simp [World.setCell]
              have h2 := HB2.out.size
              have h3 := HS.out
              refine New.both ((HN.out.mono (by omega)).from h2) ((HNg.out.mono (by omega))) fun b hb hb2 => ?_
              have := (HN.out.2 b hb).1
              have := HD2.out b hb2
              have := HSZ.out
              omega⟩
            have HB8 : Aside (Below w.heap.size w w8) := ⟨by rw [hw8]; exact below_set HB.out (p := ⟨B3, 1, none⟩) (by show w.heap.size ≤ B3; omega) _⟩
            have HDm : Aside (∀ x ∈ D, w.heap.size + 2 ≤ x) := ⟨fun x hx => by have := (HN.out.2 x hx).1; have := HSZ.out; omega⟩
            clear hw8 L0 L1 L3 L5 HO HN HD5 HKB HB l0 l3 q0 q3 f3 HOg0
            have L0 := L08
            have L1 := L18
            have L3 := L38
            have HOm := HOm8
            have HOgg := HOg8
            have HB := HB8
            clear L08 L18 L38 HOm8 HOg8 HB8
            rcases hso : storeOk ⟨s.by_, s.tm + 1, k, s.go⟩ with _ | _
            all_goals
              have HKO := Aside.mk hso
              clear hso
              refine (specStoreOk_calls _ _ _ ⟨s.by_, s.tm + 1, k, s.go⟩ (owRow_rd ow_box HOm.out) (owRow_rd ow_int HOgg.out) (fun x hx => addBox_tx HT.out ⟨HTX.out, fun _ h => by simp at h⟩ x (HNB.out ▸ hx))).mono ?_
              rintro e w4 ⟨he, hb⟩
              rw [HKO.out] at he
              subst he
              replace L0 := Aside.mk (L0.out.below hb)
              replace L1 := Aside.mk (L1.out.below hb)
              replace L3 := Aside.mk (L3.out.below hb)
              replace HOm := Aside.mk (owRow_below ow_box HOm.out hb)
              replace HOgg := Aside.mk (owRow_below ow_int HOgg.out hb)
              replace HNd := Aside.mk (HNd.out.mono hb.size)
              replace HB := Aside.mk (below_step HB.out hb)
              clear hb
              have l0 := L0.out.cells
              have l1 := L1.out.cells
              have l3 := L3.out.cells
              have q0 := L0.out.lt
              have q1 := L1.out.lt
              have q3 := L3.out.lt
              have f1 := L1.out.free
            · have HE2 : Aside (makeBox s g tx = (s, false)) := ⟨by rw [HE.out, HNB.out]; unfold orElse; rw [HKO.out]; rfl⟩
              go_wp2_with (fail)
              refine (l07Copy_calls _ _ _ s (rdBoxes_mov HB.out HR.out) (rdInts_mov HB.out HG.out) HL.out).mono ?_
              rintro e w5 ⟨mx, gx, E, rfl, ho, hn, hb⟩
              obtain ⟨An, cn, Ao, co, F0, F1, rfl, rfl, rfl, hom, hog⟩ := store_slices ho
              have HPm := Aside.mk hom
              have HPg := Aside.mk hog
              have HEm : Aside (∀ x ∈ F0, w.heap.size + 2 ≤ x) := ⟨fun x hx => by have := (hn.2 x (by simp [hx])).1; omega⟩
              have HEg : Aside (∀ x ∈ F1, w.heap.size + 2 ≤ x) := ⟨fun x hx => by have := (hn.2 x (by simp [hx])).1; omega⟩
              have HNx := Aside.mk (hn.from (w0 := w) (by omega))
              replace L1 := Aside.mk (L1.out.below hb)
              replace HB := Aside.mk (below_step HB.out hb)
              clear hom hog ho hn hb l0 l1 q0 q1 f1
              (try clear l3 q3 f3 f0)
              have l1 := L1.out.cells
              have q1 := L1.out.lt
              have f1 := L1.out.free
              go_wp2
              refine bodyPost_ret (v := .tuple #[.agg #[.int .i64 s.by_, .int .i64 s.tm, .slice An s.bx.length cn, .slice Ao s.go.length co], .bool false]) (by simp [results, go_sem, l1, q1]) rfl ?_
              rw [HE2.out]
              refine ⟨_, _, F0 ++ F1, rfl, ⟨_, _, F0, F1, rfl, rfl, ?_, ?_⟩, ?_, ?_⟩
              · (repeat (first | (with_reducible exact HPm.out) | (with_reducible refine owRow_far ow_box (w.heap.size + 2) ?_ HEm.out (by first | omega | (dsimp only; omega) | (simp; done) | (simp; omega)) _) | (with_reducible refine owRow_alloc ow_box ?_ _)))
              · (repeat (first | (with_reducible exact HPg.out) | (with_reducible refine owRow_far ow_int (w.heap.size + 2) ?_ HEg.out (by first | omega | (dsimp only; omega) | (simp; done) | (simp; omega)) _) | (with_reducible refine owRow_alloc ow_int ?_ _)))
              · (repeat (first | (with_reducible exact HNx.out) | (with_reducible refine New.set ?_ _ _) | (with_reducible refine New.alloc ?_ _) | (with_reducible refine New.drew ?_)))
              · (repeat (first | (with_reducible exact HB.out) | (with_reducible exact Below.refl _ _) | (with_reducible refine below_set ?_ (by first | omega | (dsimp only; omega) | (simp; done) | (simp; omega)) _) | (with_reducible refine below_alloc ?_ _) | (with_reducible refine below_drewN ?_ _) | (with_reducible refine below_drew ?_)))

            · have HE2 : Aside (makeBox s g tx = (⟨s.by_, s.tm + 1, k, s.go⟩, true)) := ⟨by rw [HE.out, HNB.out]; unfold orElse; rw [HKO.out]; rfl⟩
              have HDg : Aside (∀ x ∈ D2, w.heap.size + 2 ≤ x) := HD2l
              go_wp2
              refine bodyPost_ret (v := .tuple #[.agg #[.int .i64 s.by_, .int .i64 (s.tm + 1), .slice Av k.length cv, .slice Ag s.go.length cg], .bool true]) (by simp [results, go_sem, l1, l3, q1, q3]) rfl ?_
              rw [HE2.out]
              refine ⟨_, _, D ++ D2, rfl, ⟨_, _, D, D2, rfl, rfl, ?_, ?_⟩, ?_, ?_⟩
              · (repeat (first | (with_reducible exact HOm.out) | (with_reducible refine owRow_far ow_box (w.heap.size + 2) ?_ HDm.out (by first | omega | (dsimp only; omega) | (simp; done) | (simp; omega)) _) | (with_reducible refine owRow_alloc ow_box ?_ _)))
              · (repeat (first | (with_reducible exact HOgg.out) | (with_reducible refine owRow_far ow_int (w.heap.size + 2) ?_ HDg.out (by first | omega | (dsimp only; omega) | (simp; done) | (simp; omega)) _) | (with_reducible refine owRow_alloc ow_int ?_ _)))
              · (repeat (first | (with_reducible exact HNd.out) | (with_reducible refine New.set ?_ _ _) | (with_reducible refine New.alloc ?_ _) | (with_reducible refine New.drew ?_)))
              · (repeat (first | (with_reducible exact HB.out) | (with_reducible exact Below.refl _ _) | (with_reducible refine below_set ?_ (by first | omega | (dsimp only; omega) | (simp; done) | (simp; omega)) _) | (with_reducible refine below_alloc ?_ _) | (with_reducible refine below_drewN ?_ _) | (with_reducible refine below_drew ?_)))
  all_goals
    have HE : Aside (makeBox s g tx = (s, false)) := ⟨by unfold makeBox; simp [*]; try omega⟩
    go_enter Try.func19, Try.ntmps19
    go_wp2_with (fail)
    refine (specStoreOk_calls _ _ _ s (rdBoxes_mov (by (repeat (first | (with_reducible exact HB.out) | (with_reducible exact Below.refl _ _) | (with_reducible refine below_set ?_ (by first | omega | (dsimp only; omega) | (simp; done) | (simp; omega)) _) | (with_reducible refine below_alloc ?_ _) | (with_reducible refine below_drewN ?_ _) | (with_reducible refine below_drew ?_)))) HR.out) (rdInts_mov (by (repeat (first | (with_reducible exact HB.out) | (with_reducible exact Below.refl _ _) | (with_reducible refine below_set ?_ (by first | omega | (dsimp only; omega) | (simp; done) | (simp; omega)) _) | (with_reducible refine below_alloc ?_ _) | (with_reducible refine below_drewN ?_ _) | (with_reducible refine below_drew ?_)))) HG.out) HT.out).mono ?_
    rintro e w' ⟨he, hb⟩
    rw [h1] at he
    subst he
    have L0 := Aside.mk (((Loc.new w #[.int .i64 s.by_, .int .i64 s.tm, .slice A0 s.bx.length c0, .slice A1 s.go.length c1] 45).alloc (.cells #[.int .i64 0, .int .i64 0, .slice none 0 0, .slice none 0 0] 45)).below hb)
    have L1 := Aside.mk ((Loc.new1 w (.cells #[.int .i64 s.by_, .int .i64 s.tm, .slice A0 s.bx.length c0, .slice A1 s.go.length c1] 45) #[.int .i64 0, .int .i64 0, .slice none 0 0, .slice none 0 0] 45).below hb)
    have HB := Aside.mk (below_step (w0 := w) (by (repeat (first | (with_reducible exact HB.out) | (with_reducible exact Below.refl _ _) | (with_reducible refine below_set ?_ (by first | omega | (dsimp only; omega) | (simp; done) | (simp; omega)) _) | (with_reducible refine below_alloc ?_ _) | (with_reducible refine below_drewN ?_ _) | (with_reducible refine below_drew ?_)))) hb)
    clear hb
    have l0 := L0.out.cells
    have l1 := L1.out.cells
    have q0 := L0.out.lt
    have q1 := L1.out.lt
    have f1 := L1.out.free
    go_wp2_with (first
      | (go_at_call 88; refine (specKnows_calls _ _ _ s g (rdBoxes_mov HB.out HR.out) (rdInts_mov HB.out HG.out)).mono ?_; rintro e w' ⟨he, hb⟩; rw [h2] at he; subst he; replace L0 := Aside.mk (L0.out.below hb); replace L1 := Aside.mk (L1.out.below hb); replace HB := Aside.mk (below_step HB.out hb); (try clear l0); (try clear q0); (try clear f0); (try clear l1); (try clear q1); (try clear f1); have l0 := L0.out.cells; have q0 := L0.out.lt; have f0 := L0.out.free; have l1 := L1.out.cells; have q1 := L1.out.lt; have f1 := L1.out.free; clear hb)
      | (go_at_call 89; refine (specBoxNamed_calls _ _ _ s tx (rdBoxes_mov HB.out HR.out) rfl).mono ?_; rintro e w' ⟨rfl, hb⟩; replace L0 := Aside.mk (L0.out.below hb); replace L1 := Aside.mk (L1.out.below hb); replace HB := Aside.mk (below_step HB.out hb); (try clear l0); (try clear q0); (try clear f0); (try clear l1); (try clear q1); (try clear f1); have l0 := L0.out.cells; have q0 := L0.out.lt; have f0 := L0.out.free; have l1 := L1.out.cells; have q1 := L1.out.lt; have f1 := L1.out.free; clear hb))
    clear h1
    refine (l07Copy_calls _ _ _ s (rdBoxes_mov HB.out HR.out) (rdInts_mov HB.out HG.out) HL.out).mono ?_
    rintro e w5 ⟨mx, gx, E, rfl, ho, hn, hb⟩
    obtain ⟨An, cn, Ao, co, F0, F1, rfl, rfl, rfl, hom, hog⟩ := store_slices ho
    have HPm := Aside.mk hom
    have HPg := Aside.mk hog
    have HEm : Aside (∀ x ∈ F0, w.heap.size + 2 ≤ x) := ⟨fun x hx => by have := (hn.2 x (by simp [hx])).1; omega⟩
    have HEg : Aside (∀ x ∈ F1, w.heap.size + 2 ≤ x) := ⟨fun x hx => by have := (hn.2 x (by simp [hx])).1; omega⟩
    have HNx := Aside.mk (hn.from (w0 := w) (by omega))
    replace L1 := Aside.mk (L1.out.below hb)
    replace HB := Aside.mk (below_step HB.out hb)
    clear hom hog ho hn hb l0 l1 q0 q1 f1
    (try clear l3 q3 f3 f0)
    have l1 := L1.out.cells
    have q1 := L1.out.lt
    have f1 := L1.out.free
    go_wp2
    refine bodyPost_ret (v := .tuple #[.agg #[.int .i64 s.by_, .int .i64 s.tm, .slice An s.bx.length cn, .slice Ao s.go.length co], .bool false]) (by simp [results, go_sem, l1, q1]) rfl ?_
    rw [HE.out]
    refine ⟨_, _, F0 ++ F1, rfl, ⟨_, _, F0, F1, rfl, rfl, ?_, ?_⟩, ?_, ?_⟩
    · (repeat (first | (with_reducible exact HPm.out) | (with_reducible refine owRow_far ow_box (w.heap.size + 2) ?_ HEm.out (by first | omega | (dsimp only; omega) | (simp; done) | (simp; omega)) _) | (with_reducible refine owRow_alloc ow_box ?_ _)))
    · (repeat (first | (with_reducible exact HPg.out) | (with_reducible refine owRow_far ow_int (w.heap.size + 2) ?_ HEg.out (by first | omega | (dsimp only; omega) | (simp; done) | (simp; omega)) _) | (with_reducible refine owRow_alloc ow_int ?_ _)))
    · (repeat (first | (with_reducible exact HNx.out) | (with_reducible refine New.set ?_ _ _) | (with_reducible refine New.alloc ?_ _) | (with_reducible refine New.drew ?_)))
    · (repeat (first | (with_reducible exact HB.out) | (with_reducible exact Below.refl _ _) | (with_reducible refine below_set ?_ (by first | omega | (dsimp only; omega) | (simp; done) | (simp; omega)) _) | (with_reducible refine below_alloc ?_ _) | (with_reducible refine below_drewN ?_ _) | (with_reducible refine below_drew ?_)))
theorem cBoxes_filter (p : Box → Bool) : ∀ (l : List Box), cBoxes (l.filter p) ≤ cBoxes l
  | [] => Int.le_refl _
  | x :: l => by
    have h1 := cBoxes_filter p l
    have h2 := cMails_nn x.ml
    rw [List.filter_cons]
    split
    · simp only [cBoxes]; omega
    · simp only [cBoxes, cBox]; omega
theorem makeBox_small {s rs : Store} {ok : Bool} {g : Int} {tx : ByteArray} (h : makeBox s g tx = (rs, ok)) (hs : szStore s ≤ 1048576) : cBoxes rs.bx + (rs.go.length : Int) ≤ 200000000 := by
  have h0 := cStore_of_sz hs
  unfold makeBox orElse at h
  split at h
  · split at h
    · injection h with h _
      subst h
      dsimp only
      unfold addBox
      rw [cBoxes_app]
      have h1 := cBoxes_filter (fun b => decide (b.g < g)) s.bx
      have h2 := cBoxes_filter (fun b => decide (g < b.g)) s.bx
      simp only [cBoxes, cBox, cMails, List.length_nil]
      omega
    · injection h with h _
      subst h
      omega
  · injection h with h _
    subst h
    omega
end Go.Proofs.Ytjfjpabfkembcaa.H
