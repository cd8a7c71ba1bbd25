/- AddMail, the program's and the reference's: the walks. -/
import Derived.Test.YtjfjpabfkembcaaHFlagsNew
import Derived.Test.YtjfjpabfkembcaaHAddMail
import Derived.Test.YtjfjpabfkembcaaHL07Copy
import Derived.Test.YtjfjpabfkembcaaHStorePre
import Derived.Test.YtjfjpabfkembcaaHBoxOk
import Derived.Test.YtjfjpabfkembcaaHBoxOkS
import Derived.Test.YtjfjpabfkembcaaHPure2
import Derived.Test.YtjfjpabfkembcaaHOwn2
import Derived.Test.YtjfjpabfkembcaaHCopySt2
namespace Go.Proofs.Ytjfjpabfkembcaa.H
open Go.RowKit
set_option linter.unusedVariables false
set_option linter.unusedSimpArgs false
set_option maxHeartbeats 2000000 in
set_option maxRecDepth 100000 in
theorem specAddMail_calls (w : World) (mv gv : Value) (b : Box) (g f : Int) (tx : ByteArray) (t y : Int) (h : rdMails w mv b.ml) (hg : rdInts w gv b.go) (hl : smBox b) (ht : txBox b) (htx : tx.size ≤ 9223372036854775807) :
    Calls Try.prog 169 #[.agg #[.int .i64 b.g, .string b.nm, .int .i64 b.t, .int .i64 b.b, .int .i64 b.nx, mv, gv], .int .i64 g, .int .i64 f, .string tx, .agg #[.int .i64 t, .int .i64 y]] w (RetBoxB w (addMail b g f tx t y)) := by
  obtain ⟨A0, c0, rfl, _, hm⟩ := rd_len h
  obtain ⟨A1, c1, rfl, _, _⟩ := rd_len hg
  obtain ⟨i0, hi0, hz0, hz1, hz2⟩ := info_parts (show (Try.prog.info? 58).map (fun i => (i.zero, i.size, i.bytes)) = some (some (.agg #[.int .i64 0, .int .i64 0, .slice none 0 0, .string ⟨#[]⟩]), 4, 56) by kernel_rfl)
  have hl4 : b.ml.length ≤ 4000000 := hl.1.1
  obtain ⟨wz, hwz⟩ : ∃ wz : World, wz.heap.size = w.heap.size + 3 := ⟨((w.alloc (.cells #[] 0)).alloc (.cells #[] 0)).alloc (.cells #[] 0), by simp⟩
  have HZ := Aside.mk hwz
  clear hwz
  have HR := Aside.mk h
  have HG := Aside.mk hg
  have HL := Aside.mk hl
  have HT := Aside.mk ht
  clear h hg hl ht
  rcases h1 : boxOk b with _ | _
  rotate_left
  by_cases h2 : 0 ≤ mailAt b.ml g
  rotate_left
  rcases h3 : has g b.go with _ | _
  rcases h4 : isIn f 0 7 with _ | _
  rotate_left
  · have hfx := isIn_iff.1 h4
    obtain ⟨hf0, hf7⟩ := hfx
    have hnx : 1 ≤ b.nx ∧ b.nx ≤ 10000 := boxOk_nx h1
    obtain ⟨hnx1, hnx2⟩ := hnx
    obtain ⟨fl, hfl⟩ : ∃ fl, fl = flagsNew f t y := ⟨_, rfl⟩
    obtain ⟨o, hoo⟩ : ∃ o : Box, o = { b with ml := b.ml ++ [⟨g, b.nx, fl, tx⟩], nx := b.nx + 1 } := ⟨_, rfl⟩
    have HFL : Aside (flagsNew f t y = fl ∧ fl.length = 3) := ⟨hfl.symm, by rw [hfl]; rfl⟩
    have HE : Aside (addMail b g f tx t y = if boxOk o then (o, true) else (b, false)) := ⟨by rw [hoo, hfl]; unfold addMail; rw [h1, decide_eq_true (show mailAt b.ml g < 0 by omega), h3, h4]; simp⟩
    clear hfl
    go_enter Try.func169, Try.ntmps169
    go_wp2_with (fail)
    refine (l06Copy_calls _ _ _ b (rdMails_mov (by (repeat (first | (with_reducible exact HB.out) | (with_reducible exact Below.refl _ _) | (with_reducible refine below_set ?_ (by first | omega | (dsimp only; omega) | (simp; done) | (simp; omega)) _) | (with_reducible refine below_alloc ?_ _) | (with_reducible refine below_drewN ?_ _) | (with_reducible refine below_drew ?_)))) HR.out) (rdInts_mov (by (repeat (first | (with_reducible exact HB.out) | (with_reducible exact Below.refl _ _) | (with_reducible refine below_set ?_ (by first | omega | (dsimp only; omega) | (simp; done) | (simp; omega)) _) | (with_reducible refine below_alloc ?_ _) | (with_reducible refine below_drewN ?_ _) | (with_reducible refine below_drew ?_)))) HG.out) HL.out).mono ?_
    rintro e w1 ⟨mx, gx, D, rfl, ho, hn, hb⟩
    obtain ⟨Am, cm, Ag, cg, D1, D2, rfl, rfl, rfl, hom, hog⟩ := box_parts ho
    have L0 := Aside.mk ((((Loc.new w #[.int .i64 b.g, .string b.nm, .int .i64 b.t, .int .i64 b.b, .int .i64 b.nx, .slice A0 b.ml.length c0, .slice A1 b.go.length c1] 32).alloc (.cells #[.int .i64 t, .int .i64 y] 29)).alloc (.cells #[.int .i64 0, .string ⟨#[]⟩, .int .i64 0, .int .i64 0, .int .i64 0, .slice none 0 0, .slice none 0 0] 32)).below hb)
    have L1 := Aside.mk (((Loc.new1 w (.cells #[.int .i64 b.g, .string b.nm, .int .i64 b.t, .int .i64 b.b, .int .i64 b.nx, .slice A0 b.ml.length c0, .slice A1 b.go.length c1] 32) #[.int .i64 t, .int .i64 y] 29).alloc (.cells #[.int .i64 0, .string ⟨#[]⟩, .int .i64 0, .int .i64 0, .int .i64 0, .slice none 0 0, .slice none 0 0] 32)).below hb)
    have L2 := Aside.mk ((Loc.new2 w (.cells #[.int .i64 b.g, .string b.nm, .int .i64 b.t, .int .i64 b.b, .int .i64 b.nx, .slice A0 b.ml.length c0, .slice A1 b.go.length c1] 32) (.cells #[.int .i64 t, .int .i64 y] 29) #[.int .i64 0, .string ⟨#[]⟩, .int .i64 0, .int .i64 0, .int .i64 0, .slice none 0 0, .slice none 0 0] 32).below hb)
    have HB := Aside.mk (below_step (w0 := w) (by (repeat (first | (with_reducible exact HB.out) | (with_reducible exact Below.refl _ _) | (with_reducible refine below_set ?_ (by first | omega | (dsimp only; omega) | (simp; done) | (simp; omega)) _) | (with_reducible refine below_alloc ?_ _) | (with_reducible refine below_drewN ?_ _) | (with_reducible refine below_drew ?_)))) hb)
    have HOm := Aside.mk hom
    have HOg := Aside.mk hog
    have HN : Aside (New wz w1 (D1 ++ D2)) := ⟨hn.from (by have := HZ.out; simp; omega)⟩
    clear ho hom hog hn hb
    have l0 := L0.out.cells
    have l1 := L1.out.cells
    have l2 := L2.out.cells
    have q0 := L0.out.lt
    have q1 := L1.out.lt
    have q2 := L2.out.lt
    go_wp2_with (fail)
    replace L0 := Aside.mk (L0.out.alloc (.cells #[.int .i64 b.g, .string b.nm, .int .i64 b.t, .int .i64 b.b, .int .i64 b.nx, .slice Am b.ml.length cm, .slice Ag b.go.length cg] 32))
    replace L1 := Aside.mk (L1.out.alloc (.cells #[.int .i64 b.g, .string b.nm, .int .i64 b.t, .int .i64 b.b, .int .i64 b.nx, .slice Am b.ml.length cm, .slice Ag b.go.length cg] 32))
    replace L2 := Aside.mk (L2.out.alloc (.cells #[.int .i64 b.g, .string b.nm, .int .i64 b.t, .int .i64 b.b, .int .i64 b.nx, .slice Am b.ml.length cm, .slice Ag b.go.length cg] 32))
    have L3 := Aside.mk (Loc.new w1 #[.int .i64 b.g, .string b.nm, .int .i64 b.t, .int .i64 b.b, .int .i64 b.nx, .slice Am b.ml.length cm, .slice Ag b.go.length cg] 32)
    replace HB := Aside.mk (below_alloc HB.out (.cells #[.int .i64 b.g, .string b.nm, .int .i64 b.t, .int .i64 b.b, .int .i64 b.nx, .slice Am b.ml.length cm, .slice Ag b.go.length cg] 32))
    replace HOm := Aside.mk (owRow_alloc ow_mail HOm.out (.cells #[.int .i64 b.g, .string b.nm, .int .i64 b.t, .int .i64 b.b, .int .i64 b.nx, .slice Am b.ml.length cm, .slice Ag b.go.length cg] 32))
    replace HOg := Aside.mk (owRow_alloc ow_int HOg.out (.cells #[.int .i64 b.g, .string b.nm, .int .i64 b.t, .int .i64 b.b, .int .i64 b.nx, .slice Am b.ml.length cm, .slice Ag b.go.length cg] 32))
    have HN0 := HN
    replace HN := Aside.mk (HN.out.alloc (.cells #[.int .i64 b.g, .string b.nm, .int .i64 b.t, .int .i64 b.b, .int .i64 b.nx, .slice Am b.ml.length cm, .slice Ag b.go.length cg] 32))
    obtain ⟨B3, hB3⟩ : ∃ B3, B3 = w1.heap.size := ⟨_, rfl⟩
    have HB3 : Aside (w.heap.size + 3 ≤ B3 ∧ B3 ∉ D1 ++ D2) := ⟨by have := L2.out.lt; simp at this; omega, fun hx => by have := (HN0.out.2 _ hx).2; omega⟩
    rw [← hB3] at L3
    obtain ⟨w2, hw2⟩ : ∃ w2, w2 = w1.alloc (.cells #[.int .i64 b.g, .string b.nm, .int .i64 b.t, .int .i64 b.b, .int .i64 b.nx, .slice Am b.ml.length cm, .slice Ag b.go.length cg] 32) := ⟨_, rfl⟩
    rw [← hw2] at L0 L1 L2 L3 HB HOm HOg HN
    have l3 := L3.out.cells
    have q3 := L3.out.lt
    have f2 := L2.out.free
    have f3 := L3.out.free
    clear l0 l1 l2 q0 q1 q2 HN0
    have l0 := L0.out.cells
    have l1 := L1.out.cells
    have l2 := L2.out.cells
    have q0 := L0.out.lt
    have q1 := L1.out.lt
    have q2 := L2.out.lt
    try rw [← hB3]
    try rw [← hw2]
    clear hB3 hw2
    go_wp2_with (first
      | (go_at_call 71; refine (specBoxOk_calls _ _ _ b (rdMails_mov HB.out HR.out) (rdInts_mov HB.out HG.out) HT.out.1 HT.out.2).mono ?_; rintro e w' ⟨rfl, hb⟩; replace L0 := Aside.mk (L0.out.below hb); replace L1 := Aside.mk (L1.out.below hb); replace L2 := Aside.mk (L2.out.below hb); replace L3 := Aside.mk (L3.out.below hb); replace HOm := Aside.mk (owRow_below ow_mail HOm.out hb); replace HOg := Aside.mk (owRow_below ow_int HOg.out hb); replace HN := Aside.mk (HN.out.mono hb.size); replace HB := Aside.mk (below_step HB.out hb); (try clear l0); (try clear q0); (try clear f0); (try clear l1); (try clear q1); (try clear f1); (try clear l2); (try clear q2); (try clear f2); (try clear l3); (try clear q3); (try clear f3); have l0 := L0.out.cells; have q0 := L0.out.lt; have f0 := L0.out.free; have l1 := L1.out.cells; have q1 := L1.out.lt; have f1 := L1.out.free; have l2 := L2.out.cells; have q2 := L2.out.lt; have f2 := L2.out.free; have l3 := L3.out.cells; have q3 := L3.out.lt; have f3 := L3.out.free; clear hb)
      | (go_at_call 70; refine (specMailAt_calls _ _ _ b g (rdMails_mov HB.out HR.out) rfl).mono ?_; rintro e w' ⟨rfl, hb⟩; replace L0 := Aside.mk (L0.out.below hb); replace L1 := Aside.mk (L1.out.below hb); replace L2 := Aside.mk (L2.out.below hb); replace L3 := Aside.mk (L3.out.below hb); replace HOm := Aside.mk (owRow_below ow_mail HOm.out hb); replace HOg := Aside.mk (owRow_below ow_int HOg.out hb); replace HN := Aside.mk (HN.out.mono hb.size); replace HB := Aside.mk (below_step HB.out hb); (try clear l0); (try clear q0); (try clear f0); (try clear l1); (try clear q1); (try clear f1); (try clear l2); (try clear q2); (try clear f2); (try clear l3); (try clear q3); (try clear f3); have l0 := L0.out.cells; have q0 := L0.out.lt; have f0 := L0.out.free; have l1 := L1.out.cells; have q1 := L1.out.lt; have f1 := L1.out.free; have l2 := L2.out.cells; have q2 := L2.out.lt; have f2 := L2.out.free; have l3 := L3.out.cells; have q3 := L3.out.lt; have f3 := L3.out.free; clear hb)
      | (go_at_call 151; refine (l06In_calls _ _ b.go g (rdInts_mov HB.out HG.out)).mono ?_; rintro e w' ⟨rfl, hb⟩; replace L0 := Aside.mk (L0.out.below hb); replace L1 := Aside.mk (L1.out.below hb); replace L2 := Aside.mk (L2.out.below hb); replace L3 := Aside.mk (L3.out.below hb); replace HOm := Aside.mk (owRow_below ow_mail HOm.out hb); replace HOg := Aside.mk (owRow_below ow_int HOg.out hb); replace HN := Aside.mk (HN.out.mono hb.size); replace HB := Aside.mk (below_step HB.out hb); (try clear l0); (try clear q0); (try clear f0); (try clear l1); (try clear q1); (try clear f1); (try clear l2); (try clear q2); (try clear f2); (try clear l3); (try clear q3); (try clear f3); have l0 := L0.out.cells; have q0 := L0.out.lt; have f0 := L0.out.free; have l1 := L1.out.cells; have q1 := L1.out.lt; have f1 := L1.out.free; have l2 := L2.out.cells; have q2 := L2.out.lt; have f2 := L2.out.free; have l3 := L3.out.cells; have q3 := L3.out.lt; have f3 := L3.out.free; clear hb)
      | (go_at_call 132; refine (l01In_calls _ _ _ _).mono ?_; rintro e w' ⟨rfl, hb⟩; replace L0 := Aside.mk (L0.out.below hb); replace L1 := Aside.mk (L1.out.below hb); replace L2 := Aside.mk (L2.out.below hb); replace L3 := Aside.mk (L3.out.below hb); replace HOm := Aside.mk (owRow_below ow_mail HOm.out hb); replace HOg := Aside.mk (owRow_below ow_int HOg.out hb); replace HN := Aside.mk (HN.out.mono hb.size); replace HB := Aside.mk (below_step HB.out hb); (try clear l0); (try clear q0); (try clear f0); (try clear l1); (try clear q1); (try clear f1); (try clear l2); (try clear q2); (try clear f2); (try clear l3); (try clear q3); (try clear f3); have l0 := L0.out.cells; have q0 := L0.out.lt; have f0 := L0.out.free; have l1 := L1.out.cells; have q1 := L1.out.lt; have f1 := L1.out.free; have l2 := L2.out.cells; have q2 := L2.out.lt; have f2 := L2.out.free; have l3 := L3.out.cells; have q3 := L3.out.lt; have f3 := L3.out.free; clear hb))
    clear h1 h2 h3 h4
    refine zBegin (S := (fun w' => Loc w' w.heap.size #[.int .i64 b.g, .string b.nm, .int .i64 b.t, .int .i64 b.b, .int .i64 b.nx, .slice A0 b.ml.length c0, .slice A1 b.go.length c1] 32 ∧ Loc w' (w.heap.size + 1) #[.int .i64 t, .int .i64 y] 29 ∧ Loc w' (w.heap.size + 1 + 1) #[.int .i64 0, .string ⟨#[]⟩, .int .i64 0, .int .i64 0, .int .i64 0, .slice none 0 0, .slice none 0 0] 32 ∧ Loc w' B3 #[.int .i64 b.g, .string b.nm, .int .i64 b.t, .int .i64 b.b, .int .i64 b.nx, .slice Am b.ml.length cm, .slice Ag b.go.length cg] 32)) (z := 13) (by kernel_rfl) (by exact ⟨L0.out.drew', L1.out.drew', L2.out.drew', L3.out.drew'⟩) (fun hHeld => ?_)
    refine zT 0 36 hHeld ?_
    refine zT 1 37 hHeld ?_
    refine zT 2 38 hHeld ?_
    refine zT 3 39 hHeld ?_
    refine zT 4 40 hHeld ?_
    refine zT 5 41 hHeld ?_
    refine zT 6 42 hHeld ?_
    refine zT 8 44 hHeld ?_
    refine zReady (rs := [7]) (by kernel_rfl) (by simp) ?_
    refine zOne (by decide) rfl (fun K hK => ?_) zNil
    go_simp
    refine (specFlagsNew_calls _ f t y hf0 hf7).mono ?_; rintro e w5 ⟨fv, Df, rfl, hof, hnf, hb⟩; rw [HFL.out.1] at hof; obtain ⟨Af, cf, rfl⟩ := cell_own ow_reg hof; have HX := Aside.mk hof; have HNX := Aside.mk hnf; have HBX := Aside.mk (below_step (w0 := w') (below_drew (Below.refl _ _)) hb); clear hof hnf
    refine hK.out _ _ (by ((repeat' apply And.intro) <;> (first | exact Loc.below hHeld.1 hb | exact Loc.alloc hHeld.1 _ | exact cell_b hb hHeld.1 | exact cell_alloc' hHeld.1 _ | exact below_step hHeld.1 hb | exact below_alloc hHeld.1 _ | exact Loc.below hHeld hb | exact Loc.alloc hHeld _ | exact cell_b hb hHeld | exact cell_alloc' hHeld _ | exact below_step hHeld hb | exact below_alloc hHeld _ | exact Loc.below hHeld.2.1 hb | exact Loc.alloc hHeld.2.1 _ | exact cell_b hb hHeld.2.1 | exact cell_alloc' hHeld.2.1 _ | exact below_step hHeld.2.1 hb | exact below_alloc hHeld.2.1 _ | exact Loc.below hHeld.2 hb | exact Loc.alloc hHeld.2 _ | exact cell_b hb hHeld.2 | exact cell_alloc' hHeld.2 _ | exact below_step hHeld.2 hb | exact below_alloc hHeld.2 _ | exact Loc.below hHeld.2.2.1 hb | exact Loc.alloc hHeld.2.2.1 _ | exact cell_b hb hHeld.2.2.1 | exact cell_alloc' hHeld.2.2.1 _ | exact below_step hHeld.2.2.1 hb | exact below_alloc hHeld.2.2.1 _ | exact Loc.below hHeld.2.2 hb | exact Loc.alloc hHeld.2.2 _ | exact cell_b hb hHeld.2.2 | exact cell_alloc' hHeld.2.2 _ | exact below_step hHeld.2.2 hb | exact below_alloc hHeld.2.2 _ | exact Loc.below hHeld.2.2.2.1 hb | exact Loc.alloc hHeld.2.2.2.1 _ | exact cell_b hb hHeld.2.2.2.1 | exact cell_alloc' hHeld.2.2.2.1 _ | exact below_step hHeld.2.2.2.1 hb | exact below_alloc hHeld.2.2.2.1 _ | exact Loc.below hHeld.2.2.2 hb | exact Loc.alloc hHeld.2.2.2 _ | exact cell_b hb hHeld.2.2.2 | exact cell_alloc' hHeld.2.2.2 _ | exact below_step hHeld.2.2.2 hb | exact below_alloc hHeld.2.2.2 _ | exact Loc.below hHeld.2.2.2.2.1 hb | exact Loc.alloc hHeld.2.2.2.2.1 _ | exact cell_b hb hHeld.2.2.2.2.1 | exact cell_alloc' hHeld.2.2.2.2.1 _ | exact below_step hHeld.2.2.2.2.1 hb | exact below_alloc hHeld.2.2.2.2.1 _ | exact Loc.below hHeld.2.2.2.2 hb | exact Loc.alloc hHeld.2.2.2.2 _ | exact cell_b hb hHeld.2.2.2.2 | exact cell_alloc' hHeld.2.2.2.2 _ | exact below_step hHeld.2.2.2.2 hb | exact below_alloc hHeld.2.2.2.2 _ | exact Loc.below hHeld.2.2.2.2.2.1 hb | exact Loc.alloc hHeld.2.2.2.2.2.1 _ | exact cell_b hb hHeld.2.2.2.2.2.1 | exact cell_alloc' hHeld.2.2.2.2.2.1 _ | exact below_step hHeld.2.2.2.2.2.1 hb | exact below_alloc hHeld.2.2.2.2.2.1 _ | exact Loc.below hHeld.2.2.2.2.2 hb | exact Loc.alloc hHeld.2.2.2.2.2 _ | exact cell_b hb hHeld.2.2.2.2.2 | exact cell_alloc' hHeld.2.2.2.2.2 _ | exact below_step hHeld.2.2.2.2.2 hb | exact below_alloc hHeld.2.2.2.2.2 _ | exact Loc.below hHeld.2.2.2.2.2.2.1 hb | exact Loc.alloc hHeld.2.2.2.2.2.2.1 _ | exact cell_b hb hHeld.2.2.2.2.2.2.1 | exact cell_alloc' hHeld.2.2.2.2.2.2.1 _ | exact below_step hHeld.2.2.2.2.2.2.1 hb | exact below_alloc hHeld.2.2.2.2.2.2.1 _ | exact Loc.below hHeld.2.2.2.2.2.2 hb | exact Loc.alloc hHeld.2.2.2.2.2.2 _ | exact cell_b hb hHeld.2.2.2.2.2.2 | exact cell_alloc' hHeld.2.2.2.2.2.2 _ | exact below_step hHeld.2.2.2.2.2.2 hb | exact below_alloc hHeld.2.2.2.2.2.2 _ | exact Loc.below hHeld.2.2.2.2.2.2.2.1 hb | exact Loc.alloc hHeld.2.2.2.2.2.2.2.1 _ | exact cell_b hb hHeld.2.2.2.2.2.2.2.1 | exact cell_alloc' hHeld.2.2.2.2.2.2.2.1 _ | exact below_step hHeld.2.2.2.2.2.2.2.1 hb | exact below_alloc hHeld.2.2.2.2.2.2.2.1 _ | exact Loc.below hHeld.2.2.2.2.2.2.2 hb | exact Loc.alloc hHeld.2.2.2.2.2.2.2 _ | exact cell_b hb hHeld.2.2.2.2.2.2.2 | exact cell_alloc' hHeld.2.2.2.2.2.2.2 _ | exact below_step hHeld.2.2.2.2.2.2.2 hb | exact below_alloc hHeld.2.2.2.2.2.2.2 _ | exact Loc.below hHeld.2.2.2.2.2.2.2.2.1 hb | exact Loc.alloc hHeld.2.2.2.2.2.2.2.2.1 _ | exact cell_b hb hHeld.2.2.2.2.2.2.2.2.1 | exact cell_alloc' hHeld.2.2.2.2.2.2.2.2.1 _ | exact below_step hHeld.2.2.2.2.2.2.2.2.1 hb | exact below_alloc hHeld.2.2.2.2.2.2.2.2.1 _ | exact Loc.below hHeld.2.2.2.2.2.2.2.2 hb | exact Loc.alloc hHeld.2.2.2.2.2.2.2.2 _ | exact cell_b hb hHeld.2.2.2.2.2.2.2.2 | exact cell_alloc' hHeld.2.2.2.2.2.2.2.2 _ | exact below_step hHeld.2.2.2.2.2.2.2.2 hb | exact below_alloc hHeld.2.2.2.2.2.2.2.2 _))) (fun hHeld => ?_)
    clear hK K
    (try simp only [Act.put, List.setIfInBounds_toArray, List.set_cons_zero, List.set_cons_succ])
    clear hb
    refine zT 9 45 hHeld ?_
    refine zReady (rs := [10]) (by kernel_rfl) (by simp) ?_
    refine zOne (by decide) rfl (fun K hK => ?_) zNil
    go_simp
    refine hK.out _ _ (by ((repeat' apply And.intro) <;> (first | exact Loc.below hHeld.1 hb | exact Loc.alloc hHeld.1 _ | exact cell_b hb hHeld.1 | exact cell_alloc' hHeld.1 _ | exact below_step hHeld.1 hb | exact below_alloc hHeld.1 _ | exact Loc.below hHeld hb | exact Loc.alloc hHeld _ | exact cell_b hb hHeld | exact cell_alloc' hHeld _ | exact below_step hHeld hb | exact below_alloc hHeld _ | exact Loc.below hHeld.2.1 hb | exact Loc.alloc hHeld.2.1 _ | exact cell_b hb hHeld.2.1 | exact cell_alloc' hHeld.2.1 _ | exact below_step hHeld.2.1 hb | exact below_alloc hHeld.2.1 _ | exact Loc.below hHeld.2 hb | exact Loc.alloc hHeld.2 _ | exact cell_b hb hHeld.2 | exact cell_alloc' hHeld.2 _ | exact below_step hHeld.2 hb | exact below_alloc hHeld.2 _ | exact Loc.below hHeld.2.2.1 hb | exact Loc.alloc hHeld.2.2.1 _ | exact cell_b hb hHeld.2.2.1 | exact cell_alloc' hHeld.2.2.1 _ | exact below_step hHeld.2.2.1 hb | exact below_alloc hHeld.2.2.1 _ | exact Loc.below hHeld.2.2 hb | exact Loc.alloc hHeld.2.2 _ | exact cell_b hb hHeld.2.2 | exact cell_alloc' hHeld.2.2 _ | exact below_step hHeld.2.2 hb | exact below_alloc hHeld.2.2 _ | exact Loc.below hHeld.2.2.2.1 hb | exact Loc.alloc hHeld.2.2.2.1 _ | exact cell_b hb hHeld.2.2.2.1 | exact cell_alloc' hHeld.2.2.2.1 _ | exact below_step hHeld.2.2.2.1 hb | exact below_alloc hHeld.2.2.2.1 _ | exact Loc.below hHeld.2.2.2 hb | exact Loc.alloc hHeld.2.2.2 _ | exact cell_b hb hHeld.2.2.2 | exact cell_alloc' hHeld.2.2.2 _ | exact below_step hHeld.2.2.2 hb | exact below_alloc hHeld.2.2.2 _ | exact Loc.below hHeld.2.2.2.2.1 hb | exact Loc.alloc hHeld.2.2.2.2.1 _ | exact cell_b hb hHeld.2.2.2.2.1 | exact cell_alloc' hHeld.2.2.2.2.1 _ | exact below_step hHeld.2.2.2.2.1 hb | exact below_alloc hHeld.2.2.2.2.1 _ | exact Loc.below hHeld.2.2.2.2 hb | exact Loc.alloc hHeld.2.2.2.2 _ | exact cell_b hb hHeld.2.2.2.2 | exact cell_alloc' hHeld.2.2.2.2 _ | exact below_step hHeld.2.2.2.2 hb | exact below_alloc hHeld.2.2.2.2 _ | exact Loc.below hHeld.2.2.2.2.2.1 hb | exact Loc.alloc hHeld.2.2.2.2.2.1 _ | exact cell_b hb hHeld.2.2.2.2.2.1 | exact cell_alloc' hHeld.2.2.2.2.2.1 _ | exact below_step hHeld.2.2.2.2.2.1 hb | exact below_alloc hHeld.2.2.2.2.2.1 _ | exact Loc.below hHeld.2.2.2.2.2 hb | exact Loc.alloc hHeld.2.2.2.2.2 _ | exact cell_b hb hHeld.2.2.2.2.2 | exact cell_alloc' hHeld.2.2.2.2.2 _ | exact below_step hHeld.2.2.2.2.2 hb | exact below_alloc hHeld.2.2.2.2.2 _ | exact Loc.below hHeld.2.2.2.2.2.2.1 hb | exact Loc.alloc hHeld.2.2.2.2.2.2.1 _ | exact cell_b hb hHeld.2.2.2.2.2.2.1 | exact cell_alloc' hHeld.2.2.2.2.2.2.1 _ | exact below_step hHeld.2.2.2.2.2.2.1 hb | exact below_alloc hHeld.2.2.2.2.2.2.1 _ | exact Loc.below hHeld.2.2.2.2.2.2 hb | exact Loc.alloc hHeld.2.2.2.2.2.2 _ | exact cell_b hb hHeld.2.2.2.2.2.2 | exact cell_alloc' hHeld.2.2.2.2.2.2 _ | exact below_step hHeld.2.2.2.2.2.2 hb | exact below_alloc hHeld.2.2.2.2.2.2 _ | exact Loc.below hHeld.2.2.2.2.2.2.2.1 hb | exact Loc.alloc hHeld.2.2.2.2.2.2.2.1 _ | exact cell_b hb hHeld.2.2.2.2.2.2.2.1 | exact cell_alloc' hHeld.2.2.2.2.2.2.2.1 _ | exact below_step hHeld.2.2.2.2.2.2.2.1 hb | exact below_alloc hHeld.2.2.2.2.2.2.2.1 _ | exact Loc.below hHeld.2.2.2.2.2.2.2 hb | exact Loc.alloc hHeld.2.2.2.2.2.2.2 _ | exact cell_b hb hHeld.2.2.2.2.2.2.2 | exact cell_alloc' hHeld.2.2.2.2.2.2.2 _ | exact below_step hHeld.2.2.2.2.2.2.2 hb | exact below_alloc hHeld.2.2.2.2.2.2.2 _ | exact Loc.below hHeld.2.2.2.2.2.2.2.2.1 hb | exact Loc.alloc hHeld.2.2.2.2.2.2.2.2.1 _ | exact cell_b hb hHeld.2.2.2.2.2.2.2.2.1 | exact cell_alloc' hHeld.2.2.2.2.2.2.2.2.1 _ | exact below_step hHeld.2.2.2.2.2.2.2.2.1 hb | exact below_alloc hHeld.2.2.2.2.2.2.2.2.1 _ | exact Loc.below hHeld.2.2.2.2.2.2.2.2 hb | exact Loc.alloc hHeld.2.2.2.2.2.2.2.2 _ | exact cell_b hb hHeld.2.2.2.2.2.2.2.2 | exact cell_alloc' hHeld.2.2.2.2.2.2.2.2 _ | exact below_step hHeld.2.2.2.2.2.2.2.2 hb | exact below_alloc hHeld.2.2.2.2.2.2.2.2 _))) (fun hHeld => ?_)
    clear hK K
    (try simp only [Act.put, List.setIfInBounds_toArray, List.set_cons_zero, List.set_cons_succ])
    refine zReady (rs := [11]) (by kernel_rfl) (by simp) ?_
    refine zOne (by decide) rfl (fun K hK => ?_) zNil
    obtain ⟨xs, hown, FS⟩ := owRow_snoc' ow_mail (w0 := wz) (w := w5.alloc (.cells #[.int .i64 g, .int .i64 b.nx, .slice Af fl.length cf, .string tx] 58)) (x := ⟨g, b.nx, fl, tx⟩) (cs := [.int .i64 g, .int .i64 b.nx, .slice Af fl.length cf, .string tx]) (Dx := Df) (owRow_below ow_mail HOm.out (below_alloc HBX.out _)) ⟨_, rfl, owRow_alloc ow_reg HX.out _⟩ ((New.app (New.left HN.out) (by have := HB.out.size; have := HZ.out; have := L2.out.lt; omega) (HNX.out.from (w0 := w') (Nat.le_refl _)) HBX.out.size).alloc _) (by have := HBX.out.size; have := HZ.out; have := L2.out.lt; simp; omega); refine step_append_lies _ (by rfl) (.tmp 37) (.tmp 46) 30 (by rfl) 0 58 i0 (.agg #[.int .i64 0, .int .i64 0, .slice none 0 0, .string ⟨#[]⟩]) 4 56 Try.underlying30 hi0 hz0 hz1 hz2 (by decide) (by decide) (.slice Am b.ml.length cm) b.ml.length xs (by rfl) hown ⟨w5.heap.size, 0, none⟩ 1 1 [.int .i64 g, .int .i64 b.nx, .slice Af fl.length cf, .string tx] (by rfl) rfl (World.news_of_block (heap_alloc_new w5 _)) (by simp [Value.oneCell']) (by decide) (by unfold maxLen; omega) (by omega) (Nat.zero_le _) (w5.heap.size + 1) (by simp) ?_; intro gb cap w6 hown2 hgrow hat hlt6; obtain ⟨Dm, hk1, hk2, hmem⟩ := FS _ _ hown2 hgrow (hat.imp (fun h => h.symm) (fun h => by rw [h]; simp [Value.ownBlock])); have hrow : ∀ x, (Value.slice Am b.ml.length cm).ownBlock = some x → x ∈ D1 := (fun x hx => own_in HOm.out hx); have hrw : ∀ x ∈ D1, w.heap.size + 3 ≤ x ∧ x < w'.heap.size := (fun x hx => by have h1 := HN.out.2 x (by simp [hx]); have h2 := HZ.out; omega); have n0 : some w.heap.size ≠ (Value.slice Am b.ml.length cm).ownBlock := (fun e => by have := hrw _ (hrow _ e.symm); omega); have n1 : some (w.heap.size + 1) ≠ (Value.slice Am b.ml.length cm).ownBlock := (fun e => by have := hrw _ (hrow _ e.symm); omega); have n2 : some (w.heap.size + 1 + 1) ≠ (Value.slice Am b.ml.length cm).ownBlock := (fun e => by have := hrw _ (hrow _ e.symm); omega); have n3 : some B3 ≠ (Value.slice Am b.ml.length cm).ownBlock := (fun e => HB3.out.2 (by simp [hrow _ e.symm]))
    refine hK.out _ _ (by exact ⟨hHeld.1.grown hgrow n0, hHeld.2.1.grown hgrow n1, hHeld.2.2.1.grown hgrow n2, hHeld.2.2.2.grown hgrow n3⟩) (fun hHeld => ?_)
    clear hK K
    (try simp only [Act.put, List.setIfInBounds_toArray, List.set_cons_zero, List.set_cons_succ])
    refine zT 12 48 hHeld ?_
    refine zReady (rs := [13]) (by kernel_rfl) (by simp) ?_
    refine zLast rfl (fun K hK => ?_) zNil
    have l3b := hHeld.2.2.2.cells; have f3b := hHeld.2.2.2.free; have q3b := hHeld.2.2.2.lt; go_simp
    refine hK.out _ _ ?_
    clear hK K
    (try simp only [Act.put, List.setIfInBounds_toArray, List.set_cons_zero, List.set_cons_succ])
    refine zDone (by kernel_rfl) ?_ _
    have hDm : ∀ x ∈ Dm, x ∈ D1 ∨ w'.heap.size ≤ x := fun x hx => by
      rcases hmem x hx with h | h
      · rw [List.mem_append] at h
        rcases h with h | h
        · exact .inl h
        · exact .inr (HNX.out.2 x h).1
      · have := HBX.out.size
        simp at h
        omega
    have hoff : ∀ x ∈ Dm, x ∉ D2 := fun x hx hx2 => by
      rcases hDm x hx with h | h
      · exact HN.out.off x h hx2
      · have := (HN.out.2 x (by simp [hx2])).2
        omega
    have hB3m : B3 ∉ Dm := fun hx => by
      rcases hDm _ hx with h | h
      · exact HB3.out.2 (by simp [h])
      · omega
    have hB3g : B3 ∉ D2 := fun hx => HB3.out.2 (by simp [hx])
    have hrow2 : ∀ x ∈ D2, some x ≠ (Value.slice Am b.ml.length cm).ownBlock := fun x hx e => HN.out.off x (hrow _ e.symm) hx
    have hog6 := owRow_grown ow_int (owRow_below ow_int HOg.out (below_alloc HBX.out _)) hgrow hrow2
    have hn6 : New wz w6 (Dm ++ D2) := hk2.both ((HN.out.right.mono (by have := HBX.out.size; have := hgrow.size; simp at this; omega))) hoff
    have hb6 : Below w.heap.size w w6 := (below_step HB.out (below_alloc HBX.out _)).grown hgrow (by have := HB.out.size; have := HBX.out.size; simp; omega) (fun x hx => by have := hrw _ (hrow _ hx); omega)
    obtain ⟨pv, hpv⟩ : ∃ pv : Value, pv = .slice (some ⟨gb, 0, none⟩) (b.ml.length + 1) cap := ⟨_, rfl⟩
    obtain ⟨w7, hw7⟩ : ∃ w7, w7 = w6.setCell ⟨B3, 5, none⟩ (.slice (some ⟨gb, 0, none⟩) (b.ml.length + 1) cap) := ⟨_, rfl⟩
    have L0' : Aside (Loc w7 w.heap.size #[.int .i64 b.g, .string b.nm, .int .i64 b.t, .int .i64 b.b, .int .i64 b.nx, .slice A0 b.ml.length c0, .slice A1 b.go.length c1] 32) := ⟨by rw [hw7]; exact hHeld.1.set (by show _ ≠ B3; have := HB3.out.1; omega) _⟩
    have L1' : Aside (Loc w7 (w.heap.size + 1) #[.int .i64 t, .int .i64 y] 29) := ⟨by rw [hw7]; exact hHeld.2.1.set (by show _ ≠ B3; have := HB3.out.1; omega) _⟩
    have L2' : Aside (Loc w7 (w.heap.size + 1 + 1) #[.int .i64 0, .string ⟨#[]⟩, .int .i64 0, .int .i64 0, .int .i64 0, .slice none 0 0, .slice none 0 0] 32) := ⟨by rw [hw7]; exact hHeld.2.2.1.set (by show _ ≠ B3; have := HB3.out.1; omega) _⟩
    have L3' : Aside (Loc w7 B3 #[.int .i64 b.g, .string b.nm, .int .i64 b.t, .int .i64 b.b, .int .i64 b.nx, .slice (some ⟨gb, 0, none⟩) (b.ml.length + 1) cap, .slice Ag b.go.length cg] 32) := ⟨by rw [hw7]; exact hHeld.2.2.2.put 5 _⟩
    have HOm' : Aside (owMails w7 Dm (.slice (some ⟨gb, 0, none⟩) (b.ml.length + 1) cap) (b.ml ++ [⟨g, b.nx, fl, tx⟩])) := ⟨by rw [hw7]; exact owRow_set ow_mail hk1 (p := ⟨B3, 5, none⟩) hB3m _⟩
    have HOg' : Aside (owInts w7 D2 (.slice Ag b.go.length cg) b.go) := ⟨by rw [hw7]; exact owRow_set ow_int hog6 (p := ⟨B3, 5, none⟩) hB3g _⟩
    have HN' : Aside (New wz w7 (Dm ++ D2)) := ⟨by rw [hw7]; exact hn6.set _ _⟩
    have HB' : Aside (Below w.heap.size w w7) := ⟨by rw [hw7]; exact below_set hb6 (by show w.heap.size ≤ B3; have := HB3.out.1; omega) _⟩
    have HB3' := Aside.mk (And.intro hB3m hB3g)
    rw [← hw7]
    clear hpv hw7 hHeld hk1 hk2 hmem hDm hoff hB3m hB3g hrow2 hog6 hn6 hb6 hrow hrw n0 n1 n2 n3 hgrow hown2 hat hlt6 hown FS HBX HX HNX L0 L1 L2 L3 HOm HOg HN HB l0 l1 l2 l3 q0 q1 q2 q3 f2 f3 f0 f1
    have L0 := L0'
    have L1 := L1'
    have L2 := L2'
    have L3 := L3'
    have HOm := HOm'
    have HOg := HOg'
    have HN := HN'
    have HB := HB'
    clear L0' L1' L2' L3' HOm' HOg' HN' HB'
    have l0 := L0.out.cells
    have l2 := L2.out.cells
    have l3 := L3.out.cells
    have q0 := L0.out.lt
    have q2 := L2.out.lt
    have q3 := L3.out.lt
    have f2 := L2.out.free
    have f3 := L3.out.free
    have hne0 : w.heap.size ≠ B3 := by have := HB3.out.1; omega
    have hne2 : w.heap.size + 1 + 1 ≠ B3 := by have := HB3.out.1; omega
    go_wp2_with (fail)
    replace L0 := Aside.mk (L0.out.set (p := ⟨B3, 4, none⟩) hne0 (.int .i64 (b.nx + 1)))
    replace L2 := Aside.mk (L2.out.set (p := ⟨B3, 4, none⟩) hne2 (.int .i64 (b.nx + 1)))
    replace L3 := Aside.mk (L3.out.put 4 (.int .i64 (b.nx + 1)))
    replace HOm := Aside.mk (owRow_set ow_mail HOm.out (p := ⟨B3, 4, none⟩) HB3'.out.1 (.int .i64 (b.nx + 1)))
    replace HOg := Aside.mk (owRow_set ow_int HOg.out (p := ⟨B3, 4, none⟩) HB3'.out.2 (.int .i64 (b.nx + 1)))
    replace HN := Aside.mk (HN.out.set ⟨B3, 4, none⟩ (.int .i64 (b.nx + 1)))
    replace HB := Aside.mk (below_set HB.out (p := ⟨B3, 4, none⟩) (by show w.heap.size ≤ B3; have := HB3.out.1; omega) (.int .i64 (b.nx + 1)))
    clear l0 l2 l3 q0 q2 q3 f2 f3 L1
    rcases h5 : boxOk ⟨b.g, b.nm, b.t, b.b, b.nx + 1, b.ml ++ [⟨g, b.nx, fl, tx⟩], b.go⟩ with _ | _
    · have HE2 : Aside (addMail b g f tx t y = (b, false)) := ⟨by rw [HE.out, hoo, h5]; rfl⟩
      refine (specBoxOk_calls _ _ _ ⟨b.g, b.nm, b.t, b.b, b.nx + 1, b.ml ++ [⟨g, b.nx, fl, tx⟩], b.go⟩ (owRow_rd ow_mail HOm.out) (owRow_rd ow_int HOg.out) HT.out.1 (fun m hm => by rw [List.mem_append, List.mem_singleton] at hm; rcases hm with hm | rfl; exact HT.out.2 m hm; exact htx)).mono ?_
      rintro e w8 ⟨he, hb⟩
      rw [h5] at he
      subst he
      replace L0 := Aside.mk (L0.out.below hb); replace L2 := Aside.mk (L2.out.below hb); replace L3 := Aside.mk (L3.out.below hb); replace HOm := Aside.mk (owRow_below ow_mail HOm.out hb); replace HOg := Aside.mk (owRow_below ow_int HOg.out hb); replace HN := Aside.mk (HN.out.mono hb.size); replace HB := Aside.mk (below_step HB.out hb); (try clear l0); (try clear q0); (try clear f0); (try clear l2); (try clear q2); (try clear f2); (try clear l3); (try clear q3); (try clear f3); have l0 := L0.out.cells; have q0 := L0.out.lt; have f0 := L0.out.free; have l2 := L2.out.cells; have q2 := L2.out.lt; have f2 := L2.out.free; have l3 := L3.out.cells; have q3 := L3.out.lt; have f3 := L3.out.free
      clear hb
      clear h5 HE
      go_wp2_with (fail)
      refine (l06Copy_calls _ _ _ b (rdMails_mov HB.out HR.out) (rdInts_mov HB.out HG.out) HL.out).mono ?_
      rintro e w9 ⟨mx, gx, D, rfl, ho, hn, hb⟩
      obtain ⟨Am2, cm2, Ag2, cg2, E1, E2, rfl, rfl, rfl, hom, hog⟩ := box_parts ho
      have HOx := Aside.mk hom
      have HOy := Aside.mk hog
      have HDm : Aside (∀ x ∈ E1, w.heap.size + 3 ≤ x) := ⟨fun x hx => by have := (hn.2 x (by simp [hx])).1; omega⟩
      have HDg : Aside (∀ x ∈ E2, w.heap.size + 3 ≤ x) := ⟨fun x hx => by have := (hn.2 x (by simp [hx])).1; omega⟩
      have HNx := Aside.mk (hn.from (w0 := w) (by omega))
      replace L2 := Aside.mk (L2.out.below hb)
      replace HB := Aside.mk (below_step HB.out hb)
      clear hom hog ho hn hb l0 l2 l3 q0 q2 q3 f0 f2 f3
      have l2 := L2.out.cells
      have q2 := L2.out.lt
      have f2 := L2.out.free
      go_wp2
      refine bodyPost_ret (v := .tuple #[.agg #[.int .i64 b.g, .string b.nm, .int .i64 b.t, .int .i64 b.b, .int .i64 b.nx, .slice Am2 b.ml.length cm2, .slice Ag2 b.go.length cg2], .bool false]) (by simp [results, go_sem, l2, q2]) rfl ?_
      rw [HE2.out]
      refine ⟨_, _, E1 ++ E2, rfl, ⟨_, _, E1, E2, rfl, rfl, ?_, ?_⟩, ?_, ?_⟩
      · (repeat (first | (with_reducible exact HOx.out) | (with_reducible refine owRow_far ow_mail (w.heap.size + 3) ?_ HDm.out (by first | omega | (dsimp only; omega) | (simp; done) | (simp; omega)) _) | (with_reducible refine owRow_alloc ow_mail ?_ _)))
      · (repeat (first | (with_reducible exact HOy.out) | (with_reducible refine owRow_far ow_int (w.heap.size + 3) ?_ HDg.out (by first | omega | (dsimp only; omega) | (simp; done) | (simp; omega)) _) | (with_reducible refine owRow_alloc ow_int ?_ _)))
      · (repeat (first | (with_reducible exact HNx.out) | (with_reducible refine New.set ?_ _ _) | (with_reducible refine New.alloc ?_ _) | (with_reducible refine New.drew ?_)))
      · (repeat (first | (with_reducible exact HB.out) | (with_reducible exact Below.refl _ _) | (with_reducible refine below_set ?_ (by first | omega | (dsimp only; omega) | (simp; done) | (simp; omega)) _) | (with_reducible refine below_alloc ?_ _) | (with_reducible refine below_drewN ?_ _) | (with_reducible refine below_drew ?_)))
    · have HE2 : Aside (addMail b g f tx t y = (⟨b.g, b.nm, b.t, b.b, b.nx + 1, b.ml ++ [⟨g, b.nx, fl, tx⟩], b.go⟩, true)) := ⟨by rw [HE.out, hoo, h5]; rfl⟩
      refine (specBoxOk_calls _ _ _ ⟨b.g, b.nm, b.t, b.b, b.nx + 1, b.ml ++ [⟨g, b.nx, fl, tx⟩], b.go⟩ (owRow_rd ow_mail HOm.out) (owRow_rd ow_int HOg.out) HT.out.1 (fun m hm => by rw [List.mem_append, List.mem_singleton] at hm; rcases hm with hm | rfl; exact HT.out.2 m hm; exact htx)).mono ?_
      rintro e w8 ⟨he, hb⟩
      rw [h5] at he
      subst he
      replace L0 := Aside.mk (L0.out.below hb); replace L2 := Aside.mk (L2.out.below hb); replace L3 := Aside.mk (L3.out.below hb); replace HOm := Aside.mk (owRow_below ow_mail HOm.out hb); replace HOg := Aside.mk (owRow_below ow_int HOg.out hb); replace HN := Aside.mk (HN.out.mono hb.size); replace HB := Aside.mk (below_step HB.out hb); (try clear l0); (try clear q0); (try clear f0); (try clear l2); (try clear q2); (try clear f2); (try clear l3); (try clear q3); (try clear f3); have l0 := L0.out.cells; have q0 := L0.out.lt; have f0 := L0.out.free; have l2 := L2.out.cells; have q2 := L2.out.lt; have f2 := L2.out.free; have l3 := L3.out.cells; have q3 := L3.out.lt; have f3 := L3.out.free
      clear hb
      clear h5 HE
      have HDm : Aside (∀ x ∈ Dm, w.heap.size + 3 ≤ x) := ⟨fun x hx => by have := (HN.out.2 x (by simp [hx])).1; have := HZ.out; omega⟩
      have HDg : Aside (∀ x ∈ D2, w.heap.size + 3 ≤ x) := ⟨fun x hx => by have := (HN.out.2 x (by simp [hx])).1; have := HZ.out; omega⟩
      have HNx := Aside.mk (HN.out.from (w0 := w) (by have := HZ.out; omega))
      go_wp2
      refine bodyPost_ret (v := .tuple #[.agg #[.int .i64 b.g, .string b.nm, .int .i64 b.t, .int .i64 b.b, .int .i64 (b.nx + 1), .slice (some ⟨gb, 0, none⟩) (b.ml.length + 1) cap, .slice Ag b.go.length cg], .bool true]) (by simp [results, go_sem, l2, l3, q2, q3]) rfl ?_
      rw [HE2.out]
      refine ⟨_, _, Dm ++ D2, rfl, ⟨_, _, Dm, D2, rfl, rfl, ?_, ?_⟩, ?_, ?_⟩
      · (repeat (first | (with_reducible exact HOm.out) | (with_reducible refine owRow_far ow_mail (w.heap.size + 3) ?_ HDm.out (by first | omega | (dsimp only; omega) | (simp; done) | (simp; omega)) _) | (with_reducible refine owRow_alloc ow_mail ?_ _)))
      · (repeat (first | (with_reducible exact HOg.out) | (with_reducible refine owRow_far ow_int (w.heap.size + 3) ?_ HDg.out (by first | omega | (dsimp only; omega) | (simp; done) | (simp; omega)) _) | (with_reducible refine owRow_alloc ow_int ?_ _)))
      · (repeat (first | (with_reducible exact HNx.out) | (with_reducible refine New.set ?_ _ _) | (with_reducible refine New.alloc ?_ _) | (with_reducible refine New.drew ?_)))
      · (repeat (first | (with_reducible exact HB.out) | (with_reducible exact Below.refl _ _) | (with_reducible refine below_set ?_ (by first | omega | (dsimp only; omega) | (simp; done) | (simp; omega)) _) | (with_reducible refine below_alloc ?_ _) | (with_reducible refine below_drewN ?_ _) | (with_reducible refine below_drew ?_)))
  all_goals
    have HE : Aside (addMail b g f tx t y = (b, false)) := ⟨by unfold addMail; simp [*]; try omega⟩
    go_enter Try.func169, Try.ntmps169
    go_wp2_with (fail)
    refine (l06Copy_calls _ _ _ b (rdMails_mov (by (repeat (first | (with_reducible exact HB.out) | (with_reducible exact Below.refl _ _) | (with_reducible refine below_set ?_ (by first | omega | (dsimp only; omega) | (simp; done) | (simp; omega)) _) | (with_reducible refine below_alloc ?_ _) | (with_reducible refine below_drewN ?_ _) | (with_reducible refine below_drew ?_)))) HR.out) (rdInts_mov (by (repeat (first | (with_reducible exact HB.out) | (with_reducible exact Below.refl _ _) | (with_reducible refine below_set ?_ (by first | omega | (dsimp only; omega) | (simp; done) | (simp; omega)) _) | (with_reducible refine below_alloc ?_ _) | (with_reducible refine below_drewN ?_ _) | (with_reducible refine below_drew ?_)))) HG.out) HL.out).mono ?_
    rintro e w1 ⟨mx, gx, D, rfl, ho, hn, hb⟩
    obtain ⟨Am, cm, Ag, cg, D1, D2, rfl, rfl, rfl, hom, hog⟩ := box_parts ho
    have L0 := Aside.mk ((((Loc.new w #[.int .i64 b.g, .string b.nm, .int .i64 b.t, .int .i64 b.b, .int .i64 b.nx, .slice A0 b.ml.length c0, .slice A1 b.go.length c1] 32).alloc (.cells #[.int .i64 t, .int .i64 y] 29)).alloc (.cells #[.int .i64 0, .string ⟨#[]⟩, .int .i64 0, .int .i64 0, .int .i64 0, .slice none 0 0, .slice none 0 0] 32)).below hb)
    have L1 := Aside.mk (((Loc.new1 w (.cells #[.int .i64 b.g, .string b.nm, .int .i64 b.t, .int .i64 b.b, .int .i64 b.nx, .slice A0 b.ml.length c0, .slice A1 b.go.length c1] 32) #[.int .i64 t, .int .i64 y] 29).alloc (.cells #[.int .i64 0, .string ⟨#[]⟩, .int .i64 0, .int .i64 0, .int .i64 0, .slice none 0 0, .slice none 0 0] 32)).below hb)
    have L2 := Aside.mk ((Loc.new2 w (.cells #[.int .i64 b.g, .string b.nm, .int .i64 b.t, .int .i64 b.b, .int .i64 b.nx, .slice A0 b.ml.length c0, .slice A1 b.go.length c1] 32) (.cells #[.int .i64 t, .int .i64 y] 29) #[.int .i64 0, .string ⟨#[]⟩, .int .i64 0, .int .i64 0, .int .i64 0, .slice none 0 0, .slice none 0 0] 32).below hb)
    have HB := Aside.mk (below_step (w0 := w) (by (repeat (first | (with_reducible exact HB.out) | (with_reducible exact Below.refl _ _) | (with_reducible refine below_set ?_ (by first | omega | (dsimp only; omega) | (simp; done) | (simp; omega)) _) | (with_reducible refine below_alloc ?_ _) | (with_reducible refine below_drewN ?_ _) | (with_reducible refine below_drew ?_)))) hb)
    have HOm := Aside.mk hom
    have HOg := Aside.mk hog
    have HN : Aside (New wz w1 (D1 ++ D2)) := ⟨hn.from (by have := HZ.out; simp; omega)⟩
    clear ho hom hog hn hb
    have l0 := L0.out.cells
    have l1 := L1.out.cells
    have l2 := L2.out.cells
    have q0 := L0.out.lt
    have q1 := L1.out.lt
    have q2 := L2.out.lt
    go_wp2_with (fail)
    replace L0 := Aside.mk (L0.out.alloc (.cells #[.int .i64 b.g, .string b.nm, .int .i64 b.t, .int .i64 b.b, .int .i64 b.nx, .slice Am b.ml.length cm, .slice Ag b.go.length cg] 32))
    replace L1 := Aside.mk (L1.out.alloc (.cells #[.int .i64 b.g, .string b.nm, .int .i64 b.t, .int .i64 b.b, .int .i64 b.nx, .slice Am b.ml.length cm, .slice Ag b.go.length cg] 32))
    replace L2 := Aside.mk (L2.out.alloc (.cells #[.int .i64 b.g, .string b.nm, .int .i64 b.t, .int .i64 b.b, .int .i64 b.nx, .slice Am b.ml.length cm, .slice Ag b.go.length cg] 32))
    have L3 := Aside.mk (Loc.new w1 #[.int .i64 b.g, .string b.nm, .int .i64 b.t, .int .i64 b.b, .int .i64 b.nx, .slice Am b.ml.length cm, .slice Ag b.go.length cg] 32)
    replace HB := Aside.mk (below_alloc HB.out (.cells #[.int .i64 b.g, .string b.nm, .int .i64 b.t, .int .i64 b.b, .int .i64 b.nx, .slice Am b.ml.length cm, .slice Ag b.go.length cg] 32))
    replace HOm := Aside.mk (owRow_alloc ow_mail HOm.out (.cells #[.int .i64 b.g, .string b.nm, .int .i64 b.t, .int .i64 b.b, .int .i64 b.nx, .slice Am b.ml.length cm, .slice Ag b.go.length cg] 32))
    replace HOg := Aside.mk (owRow_alloc ow_int HOg.out (.cells #[.int .i64 b.g, .string b.nm, .int .i64 b.t, .int .i64 b.b, .int .i64 b.nx, .slice Am b.ml.length cm, .slice Ag b.go.length cg] 32))
    have HN0 := HN
    replace HN := Aside.mk (HN.out.alloc (.cells #[.int .i64 b.g, .string b.nm, .int .i64 b.t, .int .i64 b.b, .int .i64 b.nx, .slice Am b.ml.length cm, .slice Ag b.go.length cg] 32))
    obtain ⟨B3, hB3⟩ : ∃ B3, B3 = w1.heap.size := ⟨_, rfl⟩
    have HB3 : Aside (w.heap.size + 3 ≤ B3 ∧ B3 ∉ D1 ++ D2) := ⟨by have := L2.out.lt; simp at this; omega, fun hx => by have := (HN0.out.2 _ hx).2; omega⟩
    rw [← hB3] at L3
    obtain ⟨w2, hw2⟩ : ∃ w2, w2 = w1.alloc (.cells #[.int .i64 b.g, .string b.nm, .int .i64 b.t, .int .i64 b.b, .int .i64 b.nx, .slice Am b.ml.length cm, .slice Ag b.go.length cg] 32) := ⟨_, rfl⟩
    rw [← hw2] at L0 L1 L2 L3 HB HOm HOg HN
    have l3 := L3.out.cells
    have q3 := L3.out.lt
    have f2 := L2.out.free
    have f3 := L3.out.free
    clear l0 l1 l2 q0 q1 q2 HN0
    have l0 := L0.out.cells
    have l1 := L1.out.cells
    have l2 := L2.out.cells
    have q0 := L0.out.lt
    have q1 := L1.out.lt
    have q2 := L2.out.lt
    try rw [← hB3]
    try rw [← hw2]
    clear hB3 hw2
    go_wp2_with (first
      | (go_at_call 71; refine (specBoxOk_calls _ _ _ b (rdMails_mov HB.out HR.out) (rdInts_mov HB.out HG.out) HT.out.1 HT.out.2).mono ?_; rintro e w' ⟨rfl, hb⟩; replace L0 := Aside.mk (L0.out.below hb); replace L1 := Aside.mk (L1.out.below hb); replace L2 := Aside.mk (L2.out.below hb); replace L3 := Aside.mk (L3.out.below hb); replace HOm := Aside.mk (owRow_below ow_mail HOm.out hb); replace HOg := Aside.mk (owRow_below ow_int HOg.out hb); replace HN := Aside.mk (HN.out.mono hb.size); replace HB := Aside.mk (below_step HB.out hb); (try clear l0); (try clear q0); (try clear f0); (try clear l1); (try clear q1); (try clear f1); (try clear l2); (try clear q2); (try clear f2); (try clear l3); (try clear q3); (try clear f3); have l0 := L0.out.cells; have q0 := L0.out.lt; have f0 := L0.out.free; have l1 := L1.out.cells; have q1 := L1.out.lt; have f1 := L1.out.free; have l2 := L2.out.cells; have q2 := L2.out.lt; have f2 := L2.out.free; have l3 := L3.out.cells; have q3 := L3.out.lt; have f3 := L3.out.free; clear hb)
      | (go_at_call 70; refine (specMailAt_calls _ _ _ b g (rdMails_mov HB.out HR.out) rfl).mono ?_; rintro e w' ⟨rfl, hb⟩; replace L0 := Aside.mk (L0.out.below hb); replace L1 := Aside.mk (L1.out.below hb); replace L2 := Aside.mk (L2.out.below hb); replace L3 := Aside.mk (L3.out.below hb); replace HOm := Aside.mk (owRow_below ow_mail HOm.out hb); replace HOg := Aside.mk (owRow_below ow_int HOg.out hb); replace HN := Aside.mk (HN.out.mono hb.size); replace HB := Aside.mk (below_step HB.out hb); (try clear l0); (try clear q0); (try clear f0); (try clear l1); (try clear q1); (try clear f1); (try clear l2); (try clear q2); (try clear f2); (try clear l3); (try clear q3); (try clear f3); have l0 := L0.out.cells; have q0 := L0.out.lt; have f0 := L0.out.free; have l1 := L1.out.cells; have q1 := L1.out.lt; have f1 := L1.out.free; have l2 := L2.out.cells; have q2 := L2.out.lt; have f2 := L2.out.free; have l3 := L3.out.cells; have q3 := L3.out.lt; have f3 := L3.out.free; clear hb)
      | (go_at_call 151; refine (l06In_calls _ _ b.go g (rdInts_mov HB.out HG.out)).mono ?_; rintro e w' ⟨rfl, hb⟩; replace L0 := Aside.mk (L0.out.below hb); replace L1 := Aside.mk (L1.out.below hb); replace L2 := Aside.mk (L2.out.below hb); replace L3 := Aside.mk (L3.out.below hb); replace HOm := Aside.mk (owRow_below ow_mail HOm.out hb); replace HOg := Aside.mk (owRow_below ow_int HOg.out hb); replace HN := Aside.mk (HN.out.mono hb.size); replace HB := Aside.mk (below_step HB.out hb); (try clear l0); (try clear q0); (try clear f0); (try clear l1); (try clear q1); (try clear f1); (try clear l2); (try clear q2); (try clear f2); (try clear l3); (try clear q3); (try clear f3); have l0 := L0.out.cells; have q0 := L0.out.lt; have f0 := L0.out.free; have l1 := L1.out.cells; have q1 := L1.out.lt; have f1 := L1.out.free; have l2 := L2.out.cells; have q2 := L2.out.lt; have f2 := L2.out.free; have l3 := L3.out.cells; have q3 := L3.out.lt; have f3 := L3.out.free; clear hb)
      | (go_at_call 132; refine (l01In_calls _ _ _ _).mono ?_; rintro e w' ⟨rfl, hb⟩; replace L0 := Aside.mk (L0.out.below hb); replace L1 := Aside.mk (L1.out.below hb); replace L2 := Aside.mk (L2.out.below hb); replace L3 := Aside.mk (L3.out.below hb); replace HOm := Aside.mk (owRow_below ow_mail HOm.out hb); replace HOg := Aside.mk (owRow_below ow_int HOg.out hb); replace HN := Aside.mk (HN.out.mono hb.size); replace HB := Aside.mk (below_step HB.out hb); (try clear l0); (try clear q0); (try clear f0); (try clear l1); (try clear q1); (try clear f1); (try clear l2); (try clear q2); (try clear f2); (try clear l3); (try clear q3); (try clear f3); have l0 := L0.out.cells; have q0 := L0.out.lt; have f0 := L0.out.free; have l1 := L1.out.cells; have q1 := L1.out.lt; have f1 := L1.out.free; have l2 := L2.out.cells; have q2 := L2.out.lt; have f2 := L2.out.free; have l3 := L3.out.cells; have q3 := L3.out.lt; have f3 := L3.out.free; clear hb))
    refine bodyPost_ret (v := .tuple #[.agg #[.int .i64 b.g, .string b.nm, .int .i64 b.t, .int .i64 b.b, .int .i64 b.nx, .slice Am b.ml.length cm, .slice Ag b.go.length cg], .bool false]) (by simp [results, go_sem, l2, l3, q2, q3]) rfl ?_
    rw [HE.out]
    have HDm : Aside (∀ x ∈ D1, w.heap.size + 3 ≤ x) := ⟨fun x hx => by have := (HN.out.2 x (by simp [hx])).1; have := HZ.out; omega⟩
    have HDg : Aside (∀ x ∈ D2, w.heap.size + 3 ≤ x) := ⟨fun x hx => by have := (HN.out.2 x (by simp [hx])).1; have := HZ.out; omega⟩
    have HN0 := Aside.mk (HN.out.from (w0 := w) (by have := HZ.out; omega))
    refine ⟨_, _, D1 ++ D2, rfl, ⟨_, _, D1, D2, rfl, rfl, ?_, ?_⟩, ?_, ?_⟩
    · (repeat (first | (with_reducible exact HOm.out) | (with_reducible refine owRow_far ow_mail (w.heap.size + 3) ?_ HDm.out (by first | omega | (dsimp only; omega) | (simp; done) | (simp; omega)) _) | (with_reducible refine owRow_alloc ow_mail ?_ _)))
    · (repeat (first | (with_reducible exact HOg.out) | (with_reducible refine owRow_far ow_int (w.heap.size + 3) ?_ HDg.out (by first | omega | (dsimp only; omega) | (simp; done) | (simp; omega)) _) | (with_reducible refine owRow_alloc ow_int ?_ _)))
    · (repeat (first | (with_reducible exact HN0.out) | (with_reducible refine New.set ?_ _ _) | (with_reducible refine New.alloc ?_ _) | (with_reducible refine New.drew ?_)))
    · (repeat (first | (with_reducible exact HB.out) | (with_reducible exact Below.refl _ _) | (with_reducible refine below_set ?_ (by first | omega | (dsimp only; omega) | (simp; done) | (simp; omega)) _) | (with_reducible refine below_alloc ?_ _) | (with_reducible refine below_drewN ?_ _) | (with_reducible refine below_drew ?_)))
end Go.Proofs.Ytjfjpabfkembcaa.H
