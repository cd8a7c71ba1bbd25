/- FlagMail, the program's: the walk. FlagMail, the reference's: the walk. -/
import Derived.Test.YtjfjpabfkembcaaHAddMail
import Derived.Test.YtjfjpabfkembcaaHSet2
import Derived.Test.YtjfjpabfkembcaaHRegY
import Derived.Test.YtjfjpabfkembcaaHAddMailS
namespace Go.Proofs.Ytjfjpabfkembcaa.H
open Go.RowKit
set_option linter.unusedVariables false
set_option linter.unusedSimpArgs false
/-! FlagMail, the program's: the walk. -/
theorem modify_set {α : Type} {f : α → α} {l : List α} {k : Nat} (h : k < l.length) : l.modify k f = l.set k (f l[k]) := by
  apply List.ext_getElem?
  intro q
  rw [List.getElem?_modify, List.getElem?_set]
  by_cases e : k = q
  · subst e
    simp [h]
  · simp [e]
set_option maxHeartbeats 2000000 in
set_option maxRecDepth 100000 in
theorem flagMail_calls (w : World) (mv gv : Value) (b : Box) (g n t y : Int) (h : rdMails w mv b.ml) (hg : rdInts w gv b.go) (hl : smBox b) (ht : txBox b) :
    Calls Try.prog 35 #[.agg #[.int .i64 b.g, .string b.nm, .int .i64 b.t, .int .i64 b.b, .int .i64 b.nx, mv, gv], .int .i64 g, .int .i64 n, .agg #[.int .i64 t, .int .i64 y]] w (RetBoxB w (flagMail b g n t y)) := by
  obtain ⟨A0, c0, rfl, _, hm⟩ := rd_len h
  obtain ⟨A1, c1, rfl, _, _⟩ := rd_len hg
  have hl4 : b.ml.length ≤ 4000000 := hl.1.1
  obtain ⟨wz, hwz⟩ : ∃ wz : World, wz.heap.size = w.heap.size + 3 := ⟨((w.alloc (.cells #[] 0)).alloc (.cells #[] 0)).alloc (.cells #[] 0), by simp⟩
  have HZ := Aside.mk hwz
  clear hwz
  have HR := Aside.mk h
  have HG := Aside.mk hg
  have HL := Aside.mk hl
  have HT := Aside.mk ht
  clear h hg hl ht
  rcases h1 : boxOk b with _ | _
  rotate_left
  by_cases h2 : 0 ≤ mailAt b.ml g
  rcases h3 : isIn n 0 7 with _ | _
  rotate_left
  rcases h4 : stampOk t y with _ | _
  rotate_left
  · obtain ⟨kk, hkk⟩ : ∃ kk : Nat, mailAt b.ml g = (kk : Int) := Int.eq_ofNat_of_zero_le h2
    have hlt : kk < b.ml.length := by have := mailAt_lt h2; rw [hkk] at this; simpa using this
    obtain ⟨ad, fv0, hA, x0, x1, x2, x3, hf⟩ := rdMails_at HR.out kk hlt
    subst hA
    have HE : Aside (flagMail b g n t y = ({ b with ml := b.ml.set kk ⟨b.ml[kk].g, b.ml[kk].u, setFlags b.ml[kk].fl n t y, b.ml[kk].tx⟩ }, true)) := ⟨by unfold flagMail; rw [h1, h3, h4, hkk, decide_eq_true (show (0 : Int) ≤ (kk : Int) by omega)]; simp only [Bool.and_self, if_true, Int.toNat_natCast]; rw [modify_set hlt]⟩
    have HLM : Aside (b.ml[kk].fl.length ≤ 4000000) := ⟨HL.out.1.2 _ (List.getElem_mem hlt)⟩
    have HM : Aside (∀ m : Mail, m = b.ml[kk] → m = b.ml[kk]) := ⟨fun _ h => h⟩
    obtain ⟨m, hm0⟩ : ∃ m, m = b.ml[kk] := ⟨_, rfl⟩
    rw [← hm0] at x0 x1 x3 hf HE HLM
    have HM0 := Aside.mk hm0
    have HKK := Aside.mk hkk
    have HLT := Aside.mk hlt
    obtain ⟨Af, cf, rfl, _, _⟩ := rd_len hf
    have HF := Aside.mk hf
    have HX2 := Aside.mk x2
    have hq0 : (0 : Int) ≤ (kk : Int) := by omega
    have hq1 : (kk : Int) < (b.ml.length : Int) := by omega
    clear hf hm0 HM h2 hkk x0 x1 x2 x3
    go_enter Try.func35, Try.ntmps35
    go_wp2_with (fail)
    refine (copyBox_calls _ _ _ b (rdMails_mov (by (repeat (first | (with_reducible exact HB.out) | (with_reducible exact Below.refl _ _) | (with_reducible refine below_set ?_ (by first | omega | (dsimp only; omega) | (simp; done) | (simp; omega)) _) | (with_reducible refine below_alloc ?_ _) | (with_reducible refine below_drewN ?_ _) | (with_reducible refine below_drew ?_)))) HR.out) (rdInts_mov (by (repeat (first | (with_reducible exact HB.out) | (with_reducible exact Below.refl _ _) | (with_reducible refine below_set ?_ (by first | omega | (dsimp only; omega) | (simp; done) | (simp; omega)) _) | (with_reducible refine below_alloc ?_ _) | (with_reducible refine below_drewN ?_ _) | (with_reducible refine below_drew ?_)))) HG.out) HL.out).mono ?_
    rintro e w1 ⟨mx, gx, D, rfl, ho, hn, hb⟩
    obtain ⟨Am, cm, Ag, cg, D1, D2, rfl, rfl, rfl, hom, hog⟩ := box_parts ho
    have L0 := Aside.mk ((((Loc.new w #[.int .i64 b.g, .string b.nm, .int .i64 b.t, .int .i64 b.b, .int .i64 b.nx, .slice (some ad) b.ml.length c0, .slice A1 b.go.length c1] 32).alloc (.cells #[.int .i64 t, .int .i64 y] 29)).alloc (.cells #[.int .i64 0, .string ⟨#[]⟩, .int .i64 0, .int .i64 0, .int .i64 0, .slice none 0 0, .slice none 0 0] 32)).below hb)
    have L1 := Aside.mk (((Loc.new1 w (.cells #[.int .i64 b.g, .string b.nm, .int .i64 b.t, .int .i64 b.b, .int .i64 b.nx, .slice (some ad) b.ml.length c0, .slice A1 b.go.length c1] 32) #[.int .i64 t, .int .i64 y] 29).alloc (.cells #[.int .i64 0, .string ⟨#[]⟩, .int .i64 0, .int .i64 0, .int .i64 0, .slice none 0 0, .slice none 0 0] 32)).below hb)
    have L2 := Aside.mk ((Loc.new2 w (.cells #[.int .i64 b.g, .string b.nm, .int .i64 b.t, .int .i64 b.b, .int .i64 b.nx, .slice (some ad) b.ml.length c0, .slice A1 b.go.length c1] 32) (.cells #[.int .i64 t, .int .i64 y] 29) #[.int .i64 0, .string ⟨#[]⟩, .int .i64 0, .int .i64 0, .int .i64 0, .slice none 0 0, .slice none 0 0] 32).below hb)
    have HB := Aside.mk (below_step (w0 := w) (by (repeat (first | (with_reducible exact HB.out) | (with_reducible exact Below.refl _ _) | (with_reducible refine below_set ?_ (by first | omega | (dsimp only; omega) | (simp; done) | (simp; omega)) _) | (with_reducible refine below_alloc ?_ _) | (with_reducible refine below_drewN ?_ _) | (with_reducible refine below_drew ?_)))) hb)
    have HOm := Aside.mk hom
    have HOg := Aside.mk hog
    have HN : Aside (New wz w1 (D1 ++ D2)) := ⟨hn.from (by have := HZ.out; simp; omega)⟩
    clear ho hom hog hn hb
    have l0 := L0.out.cells
    have l1 := L1.out.cells
    have l2 := L2.out.cells
    have q0 := L0.out.lt
    have q1 := L1.out.lt
    have q2 := L2.out.lt
    go_wp2_with (fail)
    replace L0 := Aside.mk (L0.out.alloc (.cells #[.int .i64 b.g, .string b.nm, .int .i64 b.t, .int .i64 b.b, .int .i64 b.nx, .slice Am b.ml.length cm, .slice Ag b.go.length cg] 32))
    replace L1 := Aside.mk (L1.out.alloc (.cells #[.int .i64 b.g, .string b.nm, .int .i64 b.t, .int .i64 b.b, .int .i64 b.nx, .slice Am b.ml.length cm, .slice Ag b.go.length cg] 32))
    replace L2 := Aside.mk (L2.out.alloc (.cells #[.int .i64 b.g, .string b.nm, .int .i64 b.t, .int .i64 b.b, .int .i64 b.nx, .slice Am b.ml.length cm, .slice Ag b.go.length cg] 32))
    have L3 := Aside.mk (Loc.new w1 #[.int .i64 b.g, .string b.nm, .int .i64 b.t, .int .i64 b.b, .int .i64 b.nx, .slice Am b.ml.length cm, .slice Ag b.go.length cg] 32)
    replace HB := Aside.mk (below_alloc HB.out (.cells #[.int .i64 b.g, .string b.nm, .int .i64 b.t, .int .i64 b.b, .int .i64 b.nx, .slice Am b.ml.length cm, .slice Ag b.go.length cg] 32))
    replace HOm := Aside.mk (owRow_alloc ow_mail HOm.out (.cells #[.int .i64 b.g, .string b.nm, .int .i64 b.t, .int .i64 b.b, .int .i64 b.nx, .slice Am b.ml.length cm, .slice Ag b.go.length cg] 32))
    replace HOg := Aside.mk (owRow_alloc ow_int HOg.out (.cells #[.int .i64 b.g, .string b.nm, .int .i64 b.t, .int .i64 b.b, .int .i64 b.nx, .slice Am b.ml.length cm, .slice Ag b.go.length cg] 32))
    have HN0 := HN
    replace HN := Aside.mk (HN.out.alloc (.cells #[.int .i64 b.g, .string b.nm, .int .i64 b.t, .int .i64 b.b, .int .i64 b.nx, .slice Am b.ml.length cm, .slice Ag b.go.length cg] 32))
    obtain ⟨B3, hB3⟩ : ∃ B3, B3 = w1.heap.size := ⟨_, rfl⟩
    have HB3 : Aside (w.heap.size + 3 ≤ B3 ∧ B3 ∉ D1 ++ D2) := ⟨by have := L2.out.lt; simp at this; omega, fun hx => by have := (HN0.out.2 _ hx).2; omega⟩
    rw [← hB3] at L3
    obtain ⟨w2, hw2⟩ : ∃ w2, w2 = w1.alloc (.cells #[.int .i64 b.g, .string b.nm, .int .i64 b.t, .int .i64 b.b, .int .i64 b.nx, .slice Am b.ml.length cm, .slice Ag b.go.length cg] 32) := ⟨_, rfl⟩
    rw [← hw2] at L0 L1 L2 L3 HB HOm HOg HN
    have l3 := L3.out.cells
    have q3 := L3.out.lt
    have f2 := L2.out.free
    have f3 := L3.out.free
    clear l0 l1 l2 q0 q1 q2 HN0
    have l0 := L0.out.cells
    have l1 := L1.out.cells
    have l2 := L2.out.cells
    have q0 := L0.out.lt
    have q1 := L1.out.lt
    have q2 := L2.out.lt
    try rw [← hB3]
    try rw [← hw2]
    clear hB3 hw2
    go_wp2_with (first
      | (go_at_call 36; refine (boxOk_calls _ _ _ b (rdMails_mov HB.out HR.out) (rdInts_mov HB.out HG.out) HT.out.1 HT.out.2).mono ?_; rintro e w' ⟨rfl, hb⟩; replace L0 := Aside.mk (L0.out.below hb); replace L1 := Aside.mk (L1.out.below hb); replace L2 := Aside.mk (L2.out.below hb); replace L3 := Aside.mk (L3.out.below hb); replace HOm := Aside.mk (owRow_below ow_mail HOm.out hb); replace HOg := Aside.mk (owRow_below ow_int HOg.out hb); replace HN := Aside.mk (HN.out.mono hb.size); replace HB := Aside.mk (below_step HB.out hb); (try clear l0); (try clear q0); (try clear f0); (try clear l1); (try clear q1); (try clear f1); (try clear l2); (try clear q2); (try clear f2); (try clear l3); (try clear q3); (try clear f3); have l0 := L0.out.cells; have q0 := L0.out.lt; have f0 := L0.out.free; have l1 := L1.out.cells; have q1 := L1.out.lt; have f1 := L1.out.free; have l2 := L2.out.cells; have q2 := L2.out.lt; have f2 := L2.out.free; have l3 := L3.out.cells; have q3 := L3.out.lt; have f3 := L3.out.free; clear hb)
      | (go_at_call 38; refine (mailAt_calls _ _ _ b g (rdMails_mov HB.out HR.out) rfl).mono ?_; rintro e w' ⟨he, hb⟩; (try rw [HKK.out] at he); subst he; replace L0 := Aside.mk (L0.out.below hb); replace L1 := Aside.mk (L1.out.below hb); replace L2 := Aside.mk (L2.out.below hb); replace L3 := Aside.mk (L3.out.below hb); replace HOm := Aside.mk (owRow_below ow_mail HOm.out hb); replace HOg := Aside.mk (owRow_below ow_int HOg.out hb); replace HN := Aside.mk (HN.out.mono hb.size); replace HB := Aside.mk (below_step HB.out hb); (try clear l0); (try clear q0); (try clear f0); (try clear l1); (try clear q1); (try clear f1); (try clear l2); (try clear q2); (try clear f2); (try clear l3); (try clear q3); (try clear f3); have l0 := L0.out.cells; have q0 := L0.out.lt; have f0 := L0.out.free; have l1 := L1.out.cells; have q1 := L1.out.lt; have f1 := L1.out.free; have l2 := L2.out.cells; have q2 := L2.out.lt; have f2 := L2.out.free; have l3 := L3.out.cells; have q3 := L3.out.lt; have f3 := L3.out.free; clear hb)
      | (go_at_call 115; refine (isFlags_calls _ _).mono ?_; rintro e w' ⟨rfl, hb⟩; replace L0 := Aside.mk (L0.out.below hb); replace L1 := Aside.mk (L1.out.below hb); replace L2 := Aside.mk (L2.out.below hb); replace L3 := Aside.mk (L3.out.below hb); replace HOm := Aside.mk (owRow_below ow_mail HOm.out hb); replace HOg := Aside.mk (owRow_below ow_int HOg.out hb); replace HN := Aside.mk (HN.out.mono hb.size); replace HB := Aside.mk (below_step HB.out hb); (try clear l0); (try clear q0); (try clear f0); (try clear l1); (try clear q1); (try clear f1); (try clear l2); (try clear q2); (try clear f2); (try clear l3); (try clear q3); (try clear f3); have l0 := L0.out.cells; have q0 := L0.out.lt; have f0 := L0.out.free; have l1 := L1.out.cells; have q1 := L1.out.lt; have f1 := L1.out.free; have l2 := L2.out.cells; have q2 := L2.out.lt; have f2 := L2.out.free; have l3 := L3.out.cells; have q3 := L3.out.lt; have f3 := L3.out.free; clear hb)
      | (go_at_call 116; refine (stampOk_calls _ _ _).mono ?_; rintro e w' ⟨rfl, hb⟩; replace L0 := Aside.mk (L0.out.below hb); replace L1 := Aside.mk (L1.out.below hb); replace L2 := Aside.mk (L2.out.below hb); replace L3 := Aside.mk (L3.out.below hb); replace HOm := Aside.mk (owRow_below ow_mail HOm.out hb); replace HOg := Aside.mk (owRow_below ow_int HOg.out hb); replace HN := Aside.mk (HN.out.mono hb.size); replace HB := Aside.mk (below_step HB.out hb); (try clear l0); (try clear q0); (try clear f0); (try clear l1); (try clear q1); (try clear f1); (try clear l2); (try clear q2); (try clear f2); (try clear l3); (try clear q3); (try clear f3); have l0 := L0.out.cells; have q0 := L0.out.lt; have f0 := L0.out.free; have l1 := L1.out.cells; have q1 := L1.out.lt; have f1 := L1.out.free; have l2 := L2.out.cells; have q2 := L2.out.lt; have f2 := L2.out.free; have l3 := L3.out.cells; have q3 := L3.out.lt; have f3 := L3.out.free; clear hb))
    clear h1 h3 h4
    obtain ⟨g0, c', Di, xi, hv, hgD, hgi, hDi, hnd, hRi, hcell, hfr, ⟨cur, hcur⟩, FF⟩ := owRow_focus ow_mail HOm.out HN.out.left.1 kk HLT.out (by decide)
    obtain rfl : Am = some ⟨g0, 0, none⟩ := by injection hv
    obtain ⟨fvo, hxi, hfo⟩ := hRi
    rw [← HM0.out] at hxi
    subst hxi
    have HFF := Aside.mk FF
    have HCL := Aside.mk hcell
    have hx2 : w'.cell? ⟨(ad.add (kk * 4)).block, (ad.add (kk * 4)).off + 2, none⟩ = some (.slice Af m.fl.length cf) := cell_b HB.out HX2.out
    have y2 : w'.cell? ⟨g0, kk * 4 + 2, none⟩ = some fvo := hcell 2 _ rfl
    have HFO := Aside.mk hfo
    have HG0 : Aside (w.heap.size + 3 ≤ g0 ∧ g0 < w'.heap.size ∧ g0 ∉ Di ∧ g0 ≠ B3 ∧ g0 ∉ D2) := ⟨by have h := HN.out.2 g0 (by simp [hgD]); have := HZ.out; refine ⟨by omega, h.2, hgi, fun e => HB3.out.2 (by simp [← e, hgD]), HN.out.off g0 hgD⟩⟩
    have HFR := Aside.mk hfr
    have HCU := Aside.mk hcur
    have HDI := Aside.mk (And.intro hDi hnd)
    clear FF hcell hfr hcur hv hgi hDi hnd hfo hgD
    go_wp2_with (fail)
    refine yBegin (S := (fun w' => Loc w' w.heap.size #[.int .i64 b.g, .string b.nm, .int .i64 b.t, .int .i64 b.b, .int .i64 b.nx, .slice (some ad) b.ml.length c0, .slice A1 b.go.length c1] 32 ∧ Loc w' (w.heap.size + 1) #[.int .i64 t, .int .i64 y] 29 ∧ Loc w' (w.heap.size + 1 + 1) #[.int .i64 0, .string ⟨#[]⟩, .int .i64 0, .int .i64 0, .int .i64 0, .slice none 0 0, .slice none 0 0] 32 ∧ Loc w' B3 #[.int .i64 b.g, .string b.nm, .int .i64 b.t, .int .i64 b.b, .int .i64 b.nx, .slice (some ⟨g0, 0, none⟩) b.ml.length cm, .slice Ag b.go.length cg] 32 ∧ w'.cell? ⟨(ad.add (kk * 4)).block, (ad.add (kk * 4)).off + 2, none⟩ = some (.slice Af m.fl.length cf))) (z := 14) (by kernel_rfl) (by exact ⟨L0.out.drew', L1.out.drew', L2.out.drew', L3.out.drew', hx2⟩) (fun hHeld => ?_)
    refine yT 0 35 hHeld ?_
    refine yT 1 36 hHeld ?_
    refine yT 2 37 hHeld ?_
    refine yT 3 38 hHeld ?_
    refine yT 4 39 hHeld ?_
    refine yT 5 40 hHeld ?_
    refine yT 6 41 hHeld ?_
    refine yT 7 42 hHeld ?_
    refine yT 8 43 hHeld ?_
    refine yT 9 44 hHeld ?_
    refine yT 10 45 hHeld ?_
    refine yReady (rs := [11]) (by kernel_rfl) (by simp) ?_
    refine yOne rfl (fun K hK => ?_) yNil
    go_simp
    refine (setFlags_calls _ _ m.fl n t y (rdRegs_mov (below_drew HB.out) HF.out) HLM.out).mono ?_; rintro e w5 ⟨fv, Df, rfl, hof, hnf, hb⟩; obtain ⟨An, cn, rfl⟩ := cell_own ow_reg hof; have HX := Aside.mk hof; have HNX := Aside.mk hnf; have HBX := Aside.mk (below_step (w0 := w') (below_drew (Below.refl _ _)) hb); clear hof hnf
    refine hK.out _ _ (by ((repeat' apply And.intro) <;> (first | exact Loc.below hHeld.1 hb | exact Loc.alloc hHeld.1 _ | exact cell_b hb hHeld.1 | exact cell_alloc' hHeld.1 _ | exact below_step hHeld.1 hb | exact below_alloc hHeld.1 _ | exact Loc.below hHeld hb | exact Loc.alloc hHeld _ | exact cell_b hb hHeld | exact cell_alloc' hHeld _ | exact below_step hHeld hb | exact below_alloc hHeld _ | exact Loc.below hHeld.2.1 hb | exact Loc.alloc hHeld.2.1 _ | exact cell_b hb hHeld.2.1 | exact cell_alloc' hHeld.2.1 _ | exact below_step hHeld.2.1 hb | exact below_alloc hHeld.2.1 _ | exact Loc.below hHeld.2 hb | exact Loc.alloc hHeld.2 _ | exact cell_b hb hHeld.2 | exact cell_alloc' hHeld.2 _ | exact below_step hHeld.2 hb | exact below_alloc hHeld.2 _ | exact Loc.below hHeld.2.2.1 hb | exact Loc.alloc hHeld.2.2.1 _ | exact cell_b hb hHeld.2.2.1 | exact cell_alloc' hHeld.2.2.1 _ | exact below_step hHeld.2.2.1 hb | exact below_alloc hHeld.2.2.1 _ | exact Loc.below hHeld.2.2 hb | exact Loc.alloc hHeld.2.2 _ | exact cell_b hb hHeld.2.2 | exact cell_alloc' hHeld.2.2 _ | exact below_step hHeld.2.2 hb | exact below_alloc hHeld.2.2 _ | exact Loc.below hHeld.2.2.2.1 hb | exact Loc.alloc hHeld.2.2.2.1 _ | exact cell_b hb hHeld.2.2.2.1 | exact cell_alloc' hHeld.2.2.2.1 _ | exact below_step hHeld.2.2.2.1 hb | exact below_alloc hHeld.2.2.2.1 _ | exact Loc.below hHeld.2.2.2 hb | exact Loc.alloc hHeld.2.2.2 _ | exact cell_b hb hHeld.2.2.2 | exact cell_alloc' hHeld.2.2.2 _ | exact below_step hHeld.2.2.2 hb | exact below_alloc hHeld.2.2.2 _ | exact Loc.below hHeld.2.2.2.2.1 hb | exact Loc.alloc hHeld.2.2.2.2.1 _ | exact cell_b hb hHeld.2.2.2.2.1 | exact cell_alloc' hHeld.2.2.2.2.1 _ | exact below_step hHeld.2.2.2.2.1 hb | exact below_alloc hHeld.2.2.2.2.1 _ | exact Loc.below hHeld.2.2.2.2 hb | exact Loc.alloc hHeld.2.2.2.2 _ | exact cell_b hb hHeld.2.2.2.2 | exact cell_alloc' hHeld.2.2.2.2 _ | exact below_step hHeld.2.2.2.2 hb | exact below_alloc hHeld.2.2.2.2 _ | exact Loc.below hHeld.2.2.2.2.2.1 hb | exact Loc.alloc hHeld.2.2.2.2.2.1 _ | exact cell_b hb hHeld.2.2.2.2.2.1 | exact cell_alloc' hHeld.2.2.2.2.2.1 _ | exact below_step hHeld.2.2.2.2.2.1 hb | exact below_alloc hHeld.2.2.2.2.2.1 _ | exact Loc.below hHeld.2.2.2.2.2 hb | exact Loc.alloc hHeld.2.2.2.2.2 _ | exact cell_b hb hHeld.2.2.2.2.2 | exact cell_alloc' hHeld.2.2.2.2.2 _ | exact below_step hHeld.2.2.2.2.2 hb | exact below_alloc hHeld.2.2.2.2.2 _ | exact Loc.below hHeld.2.2.2.2.2.2.1 hb | exact Loc.alloc hHeld.2.2.2.2.2.2.1 _ | exact cell_b hb hHeld.2.2.2.2.2.2.1 | exact cell_alloc' hHeld.2.2.2.2.2.2.1 _ | exact below_step hHeld.2.2.2.2.2.2.1 hb | exact below_alloc hHeld.2.2.2.2.2.2.1 _ | exact Loc.below hHeld.2.2.2.2.2.2 hb | exact Loc.alloc hHeld.2.2.2.2.2.2 _ | exact cell_b hb hHeld.2.2.2.2.2.2 | exact cell_alloc' hHeld.2.2.2.2.2.2 _ | exact below_step hHeld.2.2.2.2.2.2 hb | exact below_alloc hHeld.2.2.2.2.2.2 _ | exact Loc.below hHeld.2.2.2.2.2.2.2.1 hb | exact Loc.alloc hHeld.2.2.2.2.2.2.2.1 _ | exact cell_b hb hHeld.2.2.2.2.2.2.2.1 | exact cell_alloc' hHeld.2.2.2.2.2.2.2.1 _ | exact below_step hHeld.2.2.2.2.2.2.2.1 hb | exact below_alloc hHeld.2.2.2.2.2.2.2.1 _ | exact Loc.below hHeld.2.2.2.2.2.2.2 hb | exact Loc.alloc hHeld.2.2.2.2.2.2.2 _ | exact cell_b hb hHeld.2.2.2.2.2.2.2 | exact cell_alloc' hHeld.2.2.2.2.2.2.2 _ | exact below_step hHeld.2.2.2.2.2.2.2 hb | exact below_alloc hHeld.2.2.2.2.2.2.2 _ | exact Loc.below hHeld.2.2.2.2.2.2.2.2.1 hb | exact Loc.alloc hHeld.2.2.2.2.2.2.2.2.1 _ | exact cell_b hb hHeld.2.2.2.2.2.2.2.2.1 | exact cell_alloc' hHeld.2.2.2.2.2.2.2.2.1 _ | exact below_step hHeld.2.2.2.2.2.2.2.2.1 hb | exact below_alloc hHeld.2.2.2.2.2.2.2.2.1 _ | exact Loc.below hHeld.2.2.2.2.2.2.2.2 hb | exact Loc.alloc hHeld.2.2.2.2.2.2.2.2 _ | exact cell_b hb hHeld.2.2.2.2.2.2.2.2 | exact cell_alloc' hHeld.2.2.2.2.2.2.2.2 _ | exact below_step hHeld.2.2.2.2.2.2.2.2 hb | exact below_alloc hHeld.2.2.2.2.2.2.2.2 _))) (fun hHeld => ?_)
    clear hK K
    (try simp only [Act.put, List.setIfInBounds_toArray, List.set_cons_zero, List.set_cons_succ])
    clear hb
    refine yP 12 47 hHeld ?_
    refine yT 13 48 hHeld ?_
    refine yReady (rs := [14]) (by kernel_rfl) (by simp) ?_
    refine yLast (Or.inl rfl) rfl (fun K hK => ?_) yNil
    have y2b := cell_b HBX.out y2; have f2b := (HBX.out.frozen (p := ⟨g0, kk * 4 + 2, none⟩) HG0.out.2.1).trans (HFR.out (kk * 4 + 2)); have q2b : g0 < w5.heap.size := (by have := HBX.out.size; have := HG0.out; omega); go_simp
    refine hK.out _ _ ?_
    clear hK K
    (try simp only [Act.put, List.setIfInBounds_toArray, List.set_cons_zero, List.set_cons_succ])
    refine yDone (by kernel_rfl) ?_ _
    have hne0 : w.heap.size ≠ g0 := by have := HG0.out.1; omega
    have hne2 : w.heap.size + 1 + 1 ≠ g0 := by have := HG0.out.1; omega
    have hne3 : B3 ≠ g0 := fun e => HG0.out.2.2.2.1 e.symm
    have hgDf : g0 ∉ Df := fun h => by have := (HNX.out.2 _ h).1; have := HG0.out.2.1; simp at *; omega
    have hseg : Seg g0 (kk * 4) (kk * 4 + 4) w' (w5.setCell ⟨g0, kk * 4 + 2, none⟩ (.slice An (setFlags m.fl n t y).length cn)) := ((Seg.refl HCU.out).keep (HBX.out.block g0 HG0.out.2.1)).set (kk * 4 + 2) (by omega) (by omega) _
    have hfl : owRegs (w5.setCell ⟨g0, kk * 4 + 2, none⟩ (.slice An (setFlags m.fl n t y).length cn)) Df (.slice An (setFlags m.fl n t y).length cn) (setFlags m.fl n t y) := owRow_set ow_reg HX.out (p := ⟨g0, kk * 4 + 2, none⟩) hgDf _
    have hsize : w'.heap.size ≤ w5.heap.size := HBX.out.size
    obtain ⟨Dm, hk1, hk2, hmem⟩ := HFF.out (w5.setCell ⟨g0, kk * 4 + 2, none⟩ (.slice An (setFlags m.fl n t y).length cn)) Df [.int .i64 m.g, .int .i64 m.u, .slice An (setFlags m.fl n t y).length cn, .string m.tx] ⟨m.g, m.u, setFlags m.fl n t y, m.tx⟩
      (fun b hb hbg _ => (Below.heap_setCell w5 ⟨g0, kk * 4 + 2, none⟩ _ b hbg).trans (HBX.out.block b (HN.out.left.2 b hb).2)) hseg
      (fun j u hu => by
        have hc := HCL.out
        rcases j with _ | _ | _ | _ | j
        · rw [World.cell?_setCell_other w5 _ _ _ (by intro e; injection e with _ e; omega)]; exact (cell_b HBX.out (hc 0 _ rfl)).trans (by simpa using hu)
        · rw [World.cell?_setCell_other w5 _ _ _ (by intro e; injection e with _ e; omega)]; exact (cell_b HBX.out (hc 1 _ rfl)).trans (by simpa using hu)
        · exact (World.cell?_setCell_same w5 ⟨g0, kk * 4 + 2, none⟩ _ (cell_b HBX.out (hc 2 _ rfl))).trans (by simpa using hu)
        · rw [World.cell?_setCell_other w5 _ _ _ (by intro e; injection e with _ e; omega)]; exact (cell_b HBX.out (hc 3 _ rfl)).trans (by simpa using hu)
        · simp at hu) ⟨_, rfl, hfl⟩ HNX.out.1 (fun b hb => .inr fun hbD => by have := (HNX.out.2 b hb).1; have h2 := (HN.out.left.2 b hbD).2; simp at this; omega)
    have hDm : ∀ x ∈ Dm, x ∈ D1 ∨ w'.heap.size ≤ x := fun x hx => (hmem x hx).imp id (fun h => (HNX.out.2 x h).1)
    have hlow : ∀ x ∈ Dm, wz.heap.size ≤ x ∧ x < (w5.setCell ⟨g0, kk * 4 + 2, none⟩ (.slice An (setFlags m.fl n t y).length cn)).heap.size := fun x hx => by
      rcases hmem x hx with h | h
      · have := HN.out.left.2 x h; simp; omega
      · have := HNX.out.2 x h; have := HN.out; have := HB.out.size; have := HZ.out; have := HG0.out; simp at *; omega
    have hoff : ∀ x ∈ Dm, x ∉ D2 := fun x hx hx2 => by
      rcases hDm x hx with h | h
      · exact HN.out.off x h hx2
      · have := (HN.out.2 x (by simp [hx2])).2
        omega
    have hn6 : New wz (w5.setCell ⟨g0, kk * 4 + 2, none⟩ (.slice An (setFlags m.fl n t y).length cn)) (Dm ++ D2) := New.both ⟨hk2, hlow⟩ ((HN.out.right.mono HBX.out.size).set _ _) hoff
    have HOg' := Aside.mk (owRow_set ow_int (owRow_below ow_int HOg.out HBX.out) (p := ⟨g0, kk * 4 + 2, none⟩) HG0.out.2.2.2.2 (.slice An (setFlags m.fl n t y).length cn))
    have HOm' := Aside.mk hk1
    have HN' := Aside.mk hn6
    have HB' := Aside.mk (below_set (below_step HB.out HBX.out) (p := ⟨g0, kk * 4 + 2, none⟩) (by show w.heap.size ≤ g0; have := HG0.out.1; omega) (.slice An (setFlags m.fl n t y).length cn))
    have L2' := Aside.mk (hHeld.2.2.1.set (p := ⟨g0, kk * 4 + 2, none⟩) hne2 (.slice An (setFlags m.fl n t y).length cn))
    have L3' := Aside.mk (hHeld.2.2.2.1.set (p := ⟨g0, kk * 4 + 2, none⟩) hne3 (.slice An (setFlags m.fl n t y).length cn))
    obtain ⟨w7, hw7⟩ : ∃ w7, w7 = w5.setCell ⟨g0, kk * 4 + 2, none⟩ (.slice An (setFlags m.fl n t y).length cn) := ⟨_, rfl⟩
    rw [← hw7] at HOg' HOm' HN' HB' L2' L3' ⊢
    clear hw7 hk1 hk2 hmem hDm hlow hoff hn6 hfl hseg hsize hHeld hgDf hne0 hne2 hne3 L0 L1 L2 L3 HOm HOg HN HB l0 l1 l2 l3 q0 q1 q2 q3 f0 f1 f2 f3 hx2 y2 y2b f2b q2b
    have l2 := L2'.out.cells
    have l3 := L3'.out.cells
    have q2 := L2'.out.lt
    have q3 := L3'.out.lt
    have f2 := L2'.out.free
    have f3 := L3'.out.free
    have HDm : Aside (∀ x ∈ Dm, w.heap.size + 3 ≤ x) := ⟨fun x hx => by have := (HN'.out.2 x (by simp [hx])).1; have := HZ.out; omega⟩
    have HDg : Aside (∀ x ∈ D2, w.heap.size + 3 ≤ x) := ⟨fun x hx => by have := (HN'.out.2 x (by simp [hx])).1; have := HZ.out; omega⟩
    have HNx := Aside.mk (HN'.out.from (w0 := w) (by have := HZ.out; omega))
    have HB := HB'
    go_wp2
    refine bodyPost_ret (v := .tuple #[.agg #[.int .i64 b.g, .string b.nm, .int .i64 b.t, .int .i64 b.b, .int .i64 b.nx, .slice (some ⟨g0, 0, none⟩) b.ml.length cm, .slice Ag b.go.length cg], .bool true]) (by simp [results, go_sem, l2, l3, q2, q3]) rfl ?_
    rw [HE.out]
    refine ⟨_, _, Dm ++ D2, rfl, ⟨_, _, Dm, D2, rfl, rfl, ?_, ?_⟩, ?_, ?_⟩
    · (repeat (first | (with_reducible exact HOm'.out) | (with_reducible refine owRow_far ow_mail (w.heap.size + 3) ?_ HDm.out (by first | omega | (dsimp only; omega) | (simp; done) | (simp; omega)) _) | (with_reducible refine owRow_alloc ow_mail ?_ _)))
    · (repeat (first | (with_reducible exact HOg'.out) | (with_reducible refine owRow_far ow_int (w.heap.size + 3) ?_ HDg.out (by first | omega | (dsimp only; omega) | (simp; done) | (simp; omega)) _) | (with_reducible refine owRow_alloc ow_int ?_ _)))
    · (repeat (first | (with_reducible exact HNx.out) | (with_reducible refine New.set ?_ _ _) | (with_reducible refine New.alloc ?_ _) | (with_reducible refine New.drew ?_)))
    · (repeat (first | (with_reducible exact HB.out) | (with_reducible exact Below.refl _ _) | (with_reducible refine below_set ?_ (by first | omega | (dsimp only; omega) | (simp; done) | (simp; omega)) _) | (with_reducible refine below_alloc ?_ _) | (with_reducible refine below_drewN ?_ _) | (with_reducible refine below_drew ?_)))
  all_goals
    have HE : Aside (flagMail b g n t y = (b, false)) := ⟨by unfold flagMail; simp [*]; try omega⟩
    have HKK : Aside (mailAt b.ml g = mailAt b.ml g) := ⟨rfl⟩
    go_enter Try.func35, Try.ntmps35
    go_wp2_with (fail)
    refine (copyBox_calls _ _ _ b (rdMails_mov (by (repeat (first | (with_reducible exact HB.out) | (with_reducible exact Below.refl _ _) | (with_reducible refine below_set ?_ (by first | omega | (dsimp only; omega) | (simp; done) | (simp; omega)) _) | (with_reducible refine below_alloc ?_ _) | (with_reducible refine below_drewN ?_ _) | (with_reducible refine below_drew ?_)))) HR.out) (rdInts_mov (by (repeat (first | (with_reducible exact HB.out) | (with_reducible exact Below.refl _ _) | (with_reducible refine below_set ?_ (by first | omega | (dsimp only; omega) | (simp; done) | (simp; omega)) _) | (with_reducible refine below_alloc ?_ _) | (with_reducible refine below_drewN ?_ _) | (with_reducible refine below_drew ?_)))) HG.out) HL.out).mono ?_
    rintro e w1 ⟨mx, gx, D, rfl, ho, hn, hb⟩
    obtain ⟨Am, cm, Ag, cg, D1, D2, rfl, rfl, rfl, hom, hog⟩ := box_parts ho
    have L0 := Aside.mk ((((Loc.new w #[.int .i64 b.g, .string b.nm, .int .i64 b.t, .int .i64 b.b, .int .i64 b.nx, .slice A0 b.ml.length c0, .slice A1 b.go.length c1] 32).alloc (.cells #[.int .i64 t, .int .i64 y] 29)).alloc (.cells #[.int .i64 0, .string ⟨#[]⟩, .int .i64 0, .int .i64 0, .int .i64 0, .slice none 0 0, .slice none 0 0] 32)).below hb)
    have L1 := Aside.mk (((Loc.new1 w (.cells #[.int .i64 b.g, .string b.nm, .int .i64 b.t, .int .i64 b.b, .int .i64 b.nx, .slice A0 b.ml.length c0, .slice A1 b.go.length c1] 32) #[.int .i64 t, .int .i64 y] 29).alloc (.cells #[.int .i64 0, .string ⟨#[]⟩, .int .i64 0, .int .i64 0, .int .i64 0, .slice none 0 0, .slice none 0 0] 32)).below hb)
    have L2 := Aside.mk ((Loc.new2 w (.cells #[.int .i64 b.g, .string b.nm, .int .i64 b.t, .int .i64 b.b, .int .i64 b.nx, .slice A0 b.ml.length c0, .slice A1 b.go.length c1] 32) (.cells #[.int .i64 t, .int .i64 y] 29) #[.int .i64 0, .string ⟨#[]⟩, .int .i64 0, .int .i64 0, .int .i64 0, .slice none 0 0, .slice none 0 0] 32).below hb)
    have HB := Aside.mk (below_step (w0 := w) (by (repeat (first | (with_reducible exact HB.out) | (with_reducible exact Below.refl _ _) | (with_reducible refine below_set ?_ (by first | omega | (dsimp only; omega) | (simp; done) | (simp; omega)) _) | (with_reducible refine below_alloc ?_ _) | (with_reducible refine below_drewN ?_ _) | (with_reducible refine below_drew ?_)))) hb)
    have HOm := Aside.mk hom
    have HOg := Aside.mk hog
    have HN : Aside (New wz w1 (D1 ++ D2)) := ⟨hn.from (by have := HZ.out; simp; omega)⟩
    clear ho hom hog hn hb
    have l0 := L0.out.cells
    have l1 := L1.out.cells
    have l2 := L2.out.cells
    have q0 := L0.out.lt
    have q1 := L1.out.lt
    have q2 := L2.out.lt
    go_wp2_with (fail)
    replace L0 := Aside.mk (L0.out.alloc (.cells #[.int .i64 b.g, .string b.nm, .int .i64 b.t, .int .i64 b.b, .int .i64 b.nx, .slice Am b.ml.length cm, .slice Ag b.go.length cg] 32))
    replace L1 := Aside.mk (L1.out.alloc (.cells #[.int .i64 b.g, .string b.nm, .int .i64 b.t, .int .i64 b.b, .int .i64 b.nx, .slice Am b.ml.length cm, .slice Ag b.go.length cg] 32))
    replace L2 := Aside.mk (L2.out.alloc (.cells #[.int .i64 b.g, .string b.nm, .int .i64 b.t, .int .i64 b.b, .int .i64 b.nx, .slice Am b.ml.length cm, .slice Ag b.go.length cg] 32))
    have L3 := Aside.mk (Loc.new w1 #[.int .i64 b.g, .string b.nm, .int .i64 b.t, .int .i64 b.b, .int .i64 b.nx, .slice Am b.ml.length cm, .slice Ag b.go.length cg] 32)
    replace HB := Aside.mk (below_alloc HB.out (.cells #[.int .i64 b.g, .string b.nm, .int .i64 b.t, .int .i64 b.b, .int .i64 b.nx, .slice Am b.ml.length cm, .slice Ag b.go.length cg] 32))
    replace HOm := Aside.mk (owRow_alloc ow_mail HOm.out (.cells #[.int .i64 b.g, .string b.nm, .int .i64 b.t, .int .i64 b.b, .int .i64 b.nx, .slice Am b.ml.length cm, .slice Ag b.go.length cg] 32))
    replace HOg := Aside.mk (owRow_alloc ow_int HOg.out (.cells #[.int .i64 b.g, .string b.nm, .int .i64 b.t, .int .i64 b.b, .int .i64 b.nx, .slice Am b.ml.length cm, .slice Ag b.go.length cg] 32))
    have HN0 := HN
    replace HN := Aside.mk (HN.out.alloc (.cells #[.int .i64 b.g, .string b.nm, .int .i64 b.t, .int .i64 b.b, .int .i64 b.nx, .slice Am b.ml.length cm, .slice Ag b.go.length cg] 32))
    obtain ⟨B3, hB3⟩ : ∃ B3, B3 = w1.heap.size := ⟨_, rfl⟩
    have HB3 : Aside (w.heap.size + 3 ≤ B3 ∧ B3 ∉ D1 ++ D2) := ⟨by have := L2.out.lt; simp at this; omega, fun hx => by have := (HN0.out.2 _ hx).2; omega⟩
    rw [← hB3] at L3
    obtain ⟨w2, hw2⟩ : ∃ w2, w2 = w1.alloc (.cells #[.int .i64 b.g, .string b.nm, .int .i64 b.t, .int .i64 b.b, .int .i64 b.nx, .slice Am b.ml.length cm, .slice Ag b.go.length cg] 32) := ⟨_, rfl⟩
    rw [← hw2] at L0 L1 L2 L3 HB HOm HOg HN
    have l3 := L3.out.cells
    have q3 := L3.out.lt
    have f2 := L2.out.free
    have f3 := L3.out.free
    clear l0 l1 l2 q0 q1 q2 HN0
    have l0 := L0.out.cells
    have l1 := L1.out.cells
    have l2 := L2.out.cells
    have q0 := L0.out.lt
    have q1 := L1.out.lt
    have q2 := L2.out.lt
    try rw [← hB3]
    try rw [← hw2]
    clear hB3 hw2
    go_wp2_with (first
      | (go_at_call 36; refine (boxOk_calls _ _ _ b (rdMails_mov HB.out HR.out) (rdInts_mov HB.out HG.out) HT.out.1 HT.out.2).mono ?_; rintro e w' ⟨rfl, hb⟩; replace L0 := Aside.mk (L0.out.below hb); replace L1 := Aside.mk (L1.out.below hb); replace L2 := Aside.mk (L2.out.below hb); replace L3 := Aside.mk (L3.out.below hb); replace HOm := Aside.mk (owRow_below ow_mail HOm.out hb); replace HOg := Aside.mk (owRow_below ow_int HOg.out hb); replace HN := Aside.mk (HN.out.mono hb.size); replace HB := Aside.mk (below_step HB.out hb); (try clear l0); (try clear q0); (try clear f0); (try clear l1); (try clear q1); (try clear f1); (try clear l2); (try clear q2); (try clear f2); (try clear l3); (try clear q3); (try clear f3); have l0 := L0.out.cells; have q0 := L0.out.lt; have f0 := L0.out.free; have l1 := L1.out.cells; have q1 := L1.out.lt; have f1 := L1.out.free; have l2 := L2.out.cells; have q2 := L2.out.lt; have f2 := L2.out.free; have l3 := L3.out.cells; have q3 := L3.out.lt; have f3 := L3.out.free; clear hb)
      | (go_at_call 38; refine (mailAt_calls _ _ _ b g (rdMails_mov HB.out HR.out) rfl).mono ?_; rintro e w' ⟨he, hb⟩; (try rw [HKK.out] at he); subst he; replace L0 := Aside.mk (L0.out.below hb); replace L1 := Aside.mk (L1.out.below hb); replace L2 := Aside.mk (L2.out.below hb); replace L3 := Aside.mk (L3.out.below hb); replace HOm := Aside.mk (owRow_below ow_mail HOm.out hb); replace HOg := Aside.mk (owRow_below ow_int HOg.out hb); replace HN := Aside.mk (HN.out.mono hb.size); replace HB := Aside.mk (below_step HB.out hb); (try clear l0); (try clear q0); (try clear f0); (try clear l1); (try clear q1); (try clear f1); (try clear l2); (try clear q2); (try clear f2); (try clear l3); (try clear q3); (try clear f3); have l0 := L0.out.cells; have q0 := L0.out.lt; have f0 := L0.out.free; have l1 := L1.out.cells; have q1 := L1.out.lt; have f1 := L1.out.free; have l2 := L2.out.cells; have q2 := L2.out.lt; have f2 := L2.out.free; have l3 := L3.out.cells; have q3 := L3.out.lt; have f3 := L3.out.free; clear hb)
      | (go_at_call 115; refine (isFlags_calls _ _).mono ?_; rintro e w' ⟨rfl, hb⟩; replace L0 := Aside.mk (L0.out.below hb); replace L1 := Aside.mk (L1.out.below hb); replace L2 := Aside.mk (L2.out.below hb); replace L3 := Aside.mk (L3.out.below hb); replace HOm := Aside.mk (owRow_below ow_mail HOm.out hb); replace HOg := Aside.mk (owRow_below ow_int HOg.out hb); replace HN := Aside.mk (HN.out.mono hb.size); replace HB := Aside.mk (below_step HB.out hb); (try clear l0); (try clear q0); (try clear f0); (try clear l1); (try clear q1); (try clear f1); (try clear l2); (try clear q2); (try clear f2); (try clear l3); (try clear q3); (try clear f3); have l0 := L0.out.cells; have q0 := L0.out.lt; have f0 := L0.out.free; have l1 := L1.out.cells; have q1 := L1.out.lt; have f1 := L1.out.free; have l2 := L2.out.cells; have q2 := L2.out.lt; have f2 := L2.out.free; have l3 := L3.out.cells; have q3 := L3.out.lt; have f3 := L3.out.free; clear hb)
      | (go_at_call 116; refine (stampOk_calls _ _ _).mono ?_; rintro e w' ⟨rfl, hb⟩; replace L0 := Aside.mk (L0.out.below hb); replace L1 := Aside.mk (L1.out.below hb); replace L2 := Aside.mk (L2.out.below hb); replace L3 := Aside.mk (L3.out.below hb); replace HOm := Aside.mk (owRow_below ow_mail HOm.out hb); replace HOg := Aside.mk (owRow_below ow_int HOg.out hb); replace HN := Aside.mk (HN.out.mono hb.size); replace HB := Aside.mk (below_step HB.out hb); (try clear l0); (try clear q0); (try clear f0); (try clear l1); (try clear q1); (try clear f1); (try clear l2); (try clear q2); (try clear f2); (try clear l3); (try clear q3); (try clear f3); have l0 := L0.out.cells; have q0 := L0.out.lt; have f0 := L0.out.free; have l1 := L1.out.cells; have q1 := L1.out.lt; have f1 := L1.out.free; have l2 := L2.out.cells; have q2 := L2.out.lt; have f2 := L2.out.free; have l3 := L3.out.cells; have q3 := L3.out.lt; have f3 := L3.out.free; clear hb))
    refine bodyPost_ret (v := .tuple #[.agg #[.int .i64 b.g, .string b.nm, .int .i64 b.t, .int .i64 b.b, .int .i64 b.nx, .slice Am b.ml.length cm, .slice Ag b.go.length cg], .bool false]) (by simp [results, go_sem, l2, l3, q2, q3]) rfl ?_
    rw [HE.out]
    have HDm : Aside (∀ x ∈ D1, w.heap.size + 3 ≤ x) := ⟨fun x hx => by have := (HN.out.2 x (by simp [hx])).1; have := HZ.out; omega⟩
    have HDg : Aside (∀ x ∈ D2, w.heap.size + 3 ≤ x) := ⟨fun x hx => by have := (HN.out.2 x (by simp [hx])).1; have := HZ.out; omega⟩
    have HN0 := Aside.mk (HN.out.from (w0 := w) (by have := HZ.out; omega))
    refine ⟨_, _, D1 ++ D2, rfl, ⟨_, _, D1, D2, rfl, rfl, ?_, ?_⟩, ?_, ?_⟩
    · (repeat (first | (with_reducible exact HOm.out) | (with_reducible refine owRow_far ow_mail (w.heap.size + 3) ?_ HDm.out (by first | omega | (dsimp only; omega) | (simp; done) | (simp; omega)) _) | (with_reducible refine owRow_alloc ow_mail ?_ _)))
    · (repeat (first | (with_reducible exact HOg.out) | (with_reducible refine owRow_far ow_int (w.heap.size + 3) ?_ HDg.out (by first | omega | (dsimp only; omega) | (simp; done) | (simp; omega)) _) | (with_reducible refine owRow_alloc ow_int ?_ _)))
    · (repeat (first | (with_reducible exact HN0.out) | (with_reducible refine New.set ?_ _ _) | (with_reducible refine New.alloc ?_ _) | (with_reducible refine New.drew ?_)))
    · (repeat (first | (with_reducible exact HB.out) | (with_reducible exact Below.refl _ _) | (with_reducible refine below_set ?_ (by first | omega | (dsimp only; omega) | (simp; done) | (simp; omega)) _) | (with_reducible refine below_alloc ?_ _) | (with_reducible refine below_drewN ?_ _) | (with_reducible refine below_drew ?_)))
/-! FlagMail, the reference's: the walk. -/
set_option maxHeartbeats 2000000 in
set_option maxRecDepth 100000 in
theorem specFlagMail_calls (w : World) (mv gv : Value) (b : Box) (g n t y : Int) (h : rdMails w mv b.ml) (hg : rdInts w gv b.go) (hl : smBox b) (ht : txBox b) :
    Calls Try.prog 171 #[.agg #[.int .i64 b.g, .string b.nm, .int .i64 b.t, .int .i64 b.b, .int .i64 b.nx, mv, gv], .int .i64 g, .int .i64 n, .agg #[.int .i64 t, .int .i64 y]] w (RetBoxB w (flagMail b g n t y)) := by
  obtain ⟨A0, c0, rfl, _, hm⟩ := rd_len h
  obtain ⟨A1, c1, rfl, _, _⟩ := rd_len hg
  have hl4 : b.ml.length ≤ 4000000 := hl.1.1
  obtain ⟨wz, hwz⟩ : ∃ wz : World, wz.heap.size = w.heap.size + 3 := ⟨((w.alloc (.cells #[] 0)).alloc (.cells #[] 0)).alloc (.cells #[] 0), by simp⟩
  have HZ := Aside.mk hwz
  clear hwz
  have HR := Aside.mk h
  have HG := Aside.mk hg
  have HL := Aside.mk hl
  have HT := Aside.mk ht
  clear h hg hl ht
  rcases h1 : boxOk b with _ | _
  rotate_left
  by_cases h2 : 0 ≤ mailAt b.ml g
  rcases h3 : isIn n 0 7 with _ | _
  rotate_left
  rcases h4 : stampOk t y with _ | _
  rotate_left
  · obtain ⟨kk, hkk⟩ : ∃ kk : Nat, mailAt b.ml g = (kk : Int) := Int.eq_ofNat_of_zero_le h2
    have hlt : kk < b.ml.length := by have := mailAt_lt h2; rw [hkk] at this; simpa using this
    obtain ⟨ad, fv0, hA, x0, x1, x2, x3, hf⟩ := rdMails_at HR.out kk hlt
    subst hA
    have HE : Aside (flagMail b g n t y = ({ b with ml := b.ml.set kk ⟨b.ml[kk].g, b.ml[kk].u, setFlags b.ml[kk].fl n t y, b.ml[kk].tx⟩ }, true)) := ⟨by unfold flagMail; rw [h1, h3, h4, hkk, decide_eq_true (show (0 : Int) ≤ (kk : Int) by omega)]; simp only [Bool.and_self, if_true, Int.toNat_natCast]; rw [modify_set hlt]⟩
    have HLM : Aside (b.ml[kk].fl.length ≤ 4000000) := ⟨HL.out.1.2 _ (List.getElem_mem hlt)⟩
    have HM : Aside (∀ m : Mail, m = b.ml[kk] → m = b.ml[kk]) := ⟨fun _ h => h⟩
    obtain ⟨m, hm0⟩ : ∃ m, m = b.ml[kk] := ⟨_, rfl⟩
    rw [← hm0] at x0 x1 x3 hf HE HLM
    have HM0 := Aside.mk hm0
    have HKK := Aside.mk hkk
    have HLT := Aside.mk hlt
    obtain ⟨Af, cf, rfl, _, _⟩ := rd_len hf
    have HF := Aside.mk hf
    have HX2 := Aside.mk x2
    have hq0 : (0 : Int) ≤ (kk : Int) := by omega
    have hq1 : (kk : Int) < (b.ml.length : Int) := by omega
    clear hf hm0 HM h2 hkk x0 x1 x2 x3
    go_enter Try.func171, Try.ntmps171
    go_wp2_with (fail)
    refine (l06Copy_calls _ _ _ b (rdMails_mov (by (repeat (first | (with_reducible exact HB.out) | (with_reducible exact Below.refl _ _) | (with_reducible refine below_set ?_ (by first | omega | (dsimp only; omega) | (simp; done) | (simp; omega)) _) | (with_reducible refine below_alloc ?_ _) | (with_reducible refine below_drewN ?_ _) | (with_reducible refine below_drew ?_)))) HR.out) (rdInts_mov (by (repeat (first | (with_reducible exact HB.out) | (with_reducible exact Below.refl _ _) | (with_reducible refine below_set ?_ (by first | omega | (dsimp only; omega) | (simp; done) | (simp; omega)) _) | (with_reducible refine below_alloc ?_ _) | (with_reducible refine below_drewN ?_ _) | (with_reducible refine below_drew ?_)))) HG.out) HL.out).mono ?_
    rintro e w1 ⟨mx, gx, D, rfl, ho, hn, hb⟩
    obtain ⟨Am, cm, Ag, cg, D1, D2, rfl, rfl, rfl, hom, hog⟩ := box_parts ho
    have L0 := Aside.mk ((((Loc.new w #[.int .i64 b.g, .string b.nm, .int .i64 b.t, .int .i64 b.b, .int .i64 b.nx, .slice (some ad) b.ml.length c0, .slice A1 b.go.length c1] 32).alloc (.cells #[.int .i64 t, .int .i64 y] 29)).alloc (.cells #[.int .i64 0, .string ⟨#[]⟩, .int .i64 0, .int .i64 0, .int .i64 0, .slice none 0 0, .slice none 0 0] 32)).below hb)
    have L1 := Aside.mk (((Loc.new1 w (.cells #[.int .i64 b.g, .string b.nm, .int .i64 b.t, .int .i64 b.b, .int .i64 b.nx, .slice (some ad) b.ml.length c0, .slice A1 b.go.length c1] 32) #[.int .i64 t, .int .i64 y] 29).alloc (.cells #[.int .i64 0, .string ⟨#[]⟩, .int .i64 0, .int .i64 0, .int .i64 0, .slice none 0 0, .slice none 0 0] 32)).below hb)
    have L2 := Aside.mk ((Loc.new2 w (.cells #[.int .i64 b.g, .string b.nm, .int .i64 b.t, .int .i64 b.b, .int .i64 b.nx, .slice (some ad) b.ml.length c0, .slice A1 b.go.length c1] 32) (.cells #[.int .i64 t, .int .i64 y] 29) #[.int .i64 0, .string ⟨#[]⟩, .int .i64 0, .int .i64 0, .int .i64 0, .slice none 0 0, .slice none 0 0] 32).below hb)
    have HB := Aside.mk (below_step (w0 := w) (by (repeat (first | (with_reducible exact HB.out) | (with_reducible exact Below.refl _ _) | (with_reducible refine below_set ?_ (by first | omega | (dsimp only; omega) | (simp; done) | (simp; omega)) _) | (with_reducible refine below_alloc ?_ _) | (with_reducible refine below_drewN ?_ _) | (with_reducible refine below_drew ?_)))) hb)
    have HOm := Aside.mk hom
    have HOg := Aside.mk hog
    have HN : Aside (New wz w1 (D1 ++ D2)) := ⟨hn.from (by have := HZ.out; simp; omega)⟩
    clear ho hom hog hn hb
    have l0 := L0.out.cells
    have l1 := L1.out.cells
    have l2 := L2.out.cells
    have q0 := L0.out.lt
    have q1 := L1.out.lt
    have q2 := L2.out.lt
    go_wp2_with (fail)
    replace L0 := Aside.mk (L0.out.alloc (.cells #[.int .i64 b.g, .string b.nm, .int .i64 b.t, .int .i64 b.b, .int .i64 b.nx, .slice Am b.ml.length cm, .slice Ag b.go.length cg] 32))
    replace L1 := Aside.mk (L1.out.alloc (.cells #[.int .i64 b.g, .string b.nm, .int .i64 b.t, .int .i64 b.b, .int .i64 b.nx, .slice Am b.ml.length cm, .slice Ag b.go.length cg] 32))
    replace L2 := Aside.mk (L2.out.alloc (.cells #[.int .i64 b.g, .string b.nm, .int .i64 b.t, .int .i64 b.b, .int .i64 b.nx, .slice Am b.ml.length cm, .slice Ag b.go.length cg] 32))
    have L3 := Aside.mk (Loc.new w1 #[.int .i64 b.g, .string b.nm, .int .i64 b.t, .int .i64 b.b, .int .i64 b.nx, .slice Am b.ml.length cm, .slice Ag b.go.length cg] 32)
    replace HB := Aside.mk (below_alloc HB.out (.cells #[.int .i64 b.g, .string b.nm, .int .i64 b.t, .int .i64 b.b, .int .i64 b.nx, .slice Am b.ml.length cm, .slice Ag b.go.length cg] 32))
    replace HOm := Aside.mk (owRow_alloc ow_mail HOm.out (.cells #[.int .i64 b.g, .string b.nm, .int .i64 b.t, .int .i64 b.b, .int .i64 b.nx, .slice Am b.ml.length cm, .slice Ag b.go.length cg] 32))
    replace HOg := Aside.mk (owRow_alloc ow_int HOg.out (.cells #[.int .i64 b.g, .string b.nm, .int .i64 b.t, .int .i64 b.b, .int .i64 b.nx, .slice Am b.ml.length cm, .slice Ag b.go.length cg] 32))
    have HN0 := HN
    replace HN := Aside.mk (HN.out.alloc (.cells #[.int .i64 b.g, .string b.nm, .int .i64 b.t, .int .i64 b.b, .int .i64 b.nx, .slice Am b.ml.length cm, .slice Ag b.go.length cg] 32))
    obtain ⟨B3, hB3⟩ : ∃ B3, B3 = w1.heap.size := ⟨_, rfl⟩
    have HB3 : Aside (w.heap.size + 3 ≤ B3 ∧ B3 ∉ D1 ++ D2) := ⟨by have := L2.out.lt; simp at this; omega, fun hx => by have := (HN0.out.2 _ hx).2; omega⟩
    rw [← hB3] at L3
    obtain ⟨w2, hw2⟩ : ∃ w2, w2 = w1.alloc (.cells #[.int .i64 b.g, .string b.nm, .int .i64 b.t, .int .i64 b.b, .int .i64 b.nx, .slice Am b.ml.length cm, .slice Ag b.go.length cg] 32) := ⟨_, rfl⟩
    rw [← hw2] at L0 L1 L2 L3 HB HOm HOg HN
    have l3 := L3.out.cells
    have q3 := L3.out.lt
    have f2 := L2.out.free
    have f3 := L3.out.free
    clear l0 l1 l2 q0 q1 q2 HN0
    have l0 := L0.out.cells
    have l1 := L1.out.cells
    have l2 := L2.out.cells
    have q0 := L0.out.lt
    have q1 := L1.out.lt
    have q2 := L2.out.lt
    try rw [← hB3]
    try rw [← hw2]
    clear hB3 hw2
    go_wp2_with (first
      | (go_at_call 71; refine (specBoxOk_calls _ _ _ b (rdMails_mov HB.out HR.out) (rdInts_mov HB.out HG.out) HT.out.1 HT.out.2).mono ?_; rintro e w' ⟨rfl, hb⟩; replace L0 := Aside.mk (L0.out.below hb); replace L1 := Aside.mk (L1.out.below hb); replace L2 := Aside.mk (L2.out.below hb); replace L3 := Aside.mk (L3.out.below hb); replace HOm := Aside.mk (owRow_below ow_mail HOm.out hb); replace HOg := Aside.mk (owRow_below ow_int HOg.out hb); replace HN := Aside.mk (HN.out.mono hb.size); replace HB := Aside.mk (below_step HB.out hb); (try clear l0); (try clear q0); (try clear f0); (try clear l1); (try clear q1); (try clear f1); (try clear l2); (try clear q2); (try clear f2); (try clear l3); (try clear q3); (try clear f3); have l0 := L0.out.cells; have q0 := L0.out.lt; have f0 := L0.out.free; have l1 := L1.out.cells; have q1 := L1.out.lt; have f1 := L1.out.free; have l2 := L2.out.cells; have q2 := L2.out.lt; have f2 := L2.out.free; have l3 := L3.out.cells; have q3 := L3.out.lt; have f3 := L3.out.free; clear hb)
      | (go_at_call 70; refine (specMailAt_calls _ _ _ b g (rdMails_mov HB.out HR.out) rfl).mono ?_; rintro e w' ⟨he, hb⟩; (try rw [HKK.out] at he); subst he; replace L0 := Aside.mk (L0.out.below hb); replace L1 := Aside.mk (L1.out.below hb); replace L2 := Aside.mk (L2.out.below hb); replace L3 := Aside.mk (L3.out.below hb); replace HOm := Aside.mk (owRow_below ow_mail HOm.out hb); replace HOg := Aside.mk (owRow_below ow_int HOg.out hb); replace HN := Aside.mk (HN.out.mono hb.size); replace HB := Aside.mk (below_step HB.out hb); (try clear l0); (try clear q0); (try clear f0); (try clear l1); (try clear q1); (try clear f1); (try clear l2); (try clear q2); (try clear f2); (try clear l3); (try clear q3); (try clear f3); have l0 := L0.out.cells; have q0 := L0.out.lt; have f0 := L0.out.free; have l1 := L1.out.cells; have q1 := L1.out.lt; have f1 := L1.out.free; have l2 := L2.out.cells; have q2 := L2.out.lt; have f2 := L2.out.free; have l3 := L3.out.cells; have q3 := L3.out.lt; have f3 := L3.out.free; clear hb)
      | (go_at_call 132; refine (l01In_calls _ _ _ _).mono ?_; rintro e w' ⟨rfl, hb⟩; replace L0 := Aside.mk (L0.out.below hb); replace L1 := Aside.mk (L1.out.below hb); replace L2 := Aside.mk (L2.out.below hb); replace L3 := Aside.mk (L3.out.below hb); replace HOm := Aside.mk (owRow_below ow_mail HOm.out hb); replace HOg := Aside.mk (owRow_below ow_int HOg.out hb); replace HN := Aside.mk (HN.out.mono hb.size); replace HB := Aside.mk (below_step HB.out hb); (try clear l0); (try clear q0); (try clear f0); (try clear l1); (try clear q1); (try clear f1); (try clear l2); (try clear q2); (try clear f2); (try clear l3); (try clear q3); (try clear f3); have l0 := L0.out.cells; have q0 := L0.out.lt; have f0 := L0.out.free; have l1 := L1.out.cells; have q1 := L1.out.lt; have f1 := L1.out.free; have l2 := L2.out.cells; have q2 := L2.out.lt; have f2 := L2.out.free; have l3 := L3.out.cells; have q3 := L3.out.lt; have f3 := L3.out.free; clear hb)
      | (go_at_call 149; refine (specStampOk_calls _ _ _).mono ?_; rintro e w' ⟨rfl, hb⟩; replace L0 := Aside.mk (L0.out.below hb); replace L1 := Aside.mk (L1.out.below hb); replace L2 := Aside.mk (L2.out.below hb); replace L3 := Aside.mk (L3.out.below hb); replace HOm := Aside.mk (owRow_below ow_mail HOm.out hb); replace HOg := Aside.mk (owRow_below ow_int HOg.out hb); replace HN := Aside.mk (HN.out.mono hb.size); replace HB := Aside.mk (below_step HB.out hb); (try clear l0); (try clear q0); (try clear f0); (try clear l1); (try clear q1); (try clear f1); (try clear l2); (try clear q2); (try clear f2); (try clear l3); (try clear q3); (try clear f3); have l0 := L0.out.cells; have q0 := L0.out.lt; have f0 := L0.out.free; have l1 := L1.out.cells; have q1 := L1.out.lt; have f1 := L1.out.free; have l2 := L2.out.cells; have q2 := L2.out.lt; have f2 := L2.out.free; have l3 := L3.out.cells; have q3 := L3.out.lt; have f3 := L3.out.free; clear hb))
    clear h1 h3 h4
    obtain ⟨g0, c', Di, xi, hv, hgD, hgi, hDi, hnd, hRi, hcell, hfr, ⟨cur, hcur⟩, FF⟩ := owRow_focus ow_mail HOm.out HN.out.left.1 kk HLT.out (by decide)
    obtain rfl : Am = some ⟨g0, 0, none⟩ := by injection hv
    obtain ⟨fvo, hxi, hfo⟩ := hRi
    rw [← HM0.out] at hxi
    subst hxi
    have HFF := Aside.mk FF
    have HCL := Aside.mk hcell
    have hx2 : w'.cell? ⟨(ad.add (kk * 4)).block, (ad.add (kk * 4)).off + 2, none⟩ = some (.slice Af m.fl.length cf) := cell_b HB.out HX2.out
    have y2 : w'.cell? ⟨g0, kk * 4 + 2, none⟩ = some fvo := hcell 2 _ rfl
    have HFO := Aside.mk hfo
    have HG0 : Aside (w.heap.size + 3 ≤ g0 ∧ g0 < w'.heap.size ∧ g0 ∉ Di ∧ g0 ≠ B3 ∧ g0 ∉ D2) := ⟨by have h := HN.out.2 g0 (by simp [hgD]); have := HZ.out; refine ⟨by omega, h.2, hgi, fun e => HB3.out.2 (by simp [← e, hgD]), HN.out.off g0 hgD⟩⟩
    have HFR := Aside.mk hfr
    have HCU := Aside.mk hcur
    have HDI := Aside.mk (And.intro hDi hnd)
    clear FF hcell hfr hcur hv hgi hDi hnd hfo hgD
    go_wp2_with (fail)
    refine yBegin (S := (fun w' => Loc w' w.heap.size #[.int .i64 b.g, .string b.nm, .int .i64 b.t, .int .i64 b.b, .int .i64 b.nx, .slice (some ad) b.ml.length c0, .slice A1 b.go.length c1] 32 ∧ Loc w' (w.heap.size + 1) #[.int .i64 t, .int .i64 y] 29 ∧ Loc w' (w.heap.size + 1 + 1) #[.int .i64 0, .string ⟨#[]⟩, .int .i64 0, .int .i64 0, .int .i64 0, .slice none 0 0, .slice none 0 0] 32 ∧ Loc w' B3 #[.int .i64 b.g, .string b.nm, .int .i64 b.t, .int .i64 b.b, .int .i64 b.nx, .slice (some ⟨g0, 0, none⟩) b.ml.length cm, .slice Ag b.go.length cg] 32 ∧ w'.cell? ⟨(ad.add (kk * 4)).block, (ad.add (kk * 4)).off + 2, none⟩ = some (.slice Af m.fl.length cf))) (z := 14) (by kernel_rfl) (by exact ⟨L0.out.drew', L1.out.drew', L2.out.drew', L3.out.drew', hx2⟩) (fun hHeld => ?_)
    refine yT 0 35 hHeld ?_
    refine yT 1 36 hHeld ?_
    refine yT 2 37 hHeld ?_
    refine yT 3 38 hHeld ?_
    refine yT 4 39 hHeld ?_
    refine yT 5 40 hHeld ?_
    refine yT 6 41 hHeld ?_
    refine yT 7 42 hHeld ?_
    refine yT 8 43 hHeld ?_
    refine yT 9 44 hHeld ?_
    refine yT 10 45 hHeld ?_
    refine yReady (rs := [11]) (by kernel_rfl) (by simp) ?_
    refine yOne rfl (fun K hK => ?_) yNil
    go_simp
    refine (specSetFlags_calls _ _ m.fl n t y (rdRegs_mov (below_drew HB.out) HF.out) HLM.out).mono ?_; rintro e w5 ⟨fv, Df, rfl, hof, hnf, hb⟩; obtain ⟨An, cn, rfl⟩ := cell_own ow_reg hof; have HX := Aside.mk hof; have HNX := Aside.mk hnf; have HBX := Aside.mk (below_step (w0 := w') (below_drew (Below.refl _ _)) hb); clear hof hnf
    refine hK.out _ _ (by ((repeat' apply And.intro) <;> (first | exact Loc.below hHeld.1 hb | exact Loc.alloc hHeld.1 _ | exact cell_b hb hHeld.1 | exact cell_alloc' hHeld.1 _ | exact below_step hHeld.1 hb | exact below_alloc hHeld.1 _ | exact Loc.below hHeld hb | exact Loc.alloc hHeld _ | exact cell_b hb hHeld | exact cell_alloc' hHeld _ | exact below_step hHeld hb | exact below_alloc hHeld _ | exact Loc.below hHeld.2.1 hb | exact Loc.alloc hHeld.2.1 _ | exact cell_b hb hHeld.2.1 | exact cell_alloc' hHeld.2.1 _ | exact below_step hHeld.2.1 hb | exact below_alloc hHeld.2.1 _ | exact Loc.below hHeld.2 hb | exact Loc.alloc hHeld.2 _ | exact cell_b hb hHeld.2 | exact cell_alloc' hHeld.2 _ | exact below_step hHeld.2 hb | exact below_alloc hHeld.2 _ | exact Loc.below hHeld.2.2.1 hb | exact Loc.alloc hHeld.2.2.1 _ | exact cell_b hb hHeld.2.2.1 | exact cell_alloc' hHeld.2.2.1 _ | exact below_step hHeld.2.2.1 hb | exact below_alloc hHeld.2.2.1 _ | exact Loc.below hHeld.2.2 hb | exact Loc.alloc hHeld.2.2 _ | exact cell_b hb hHeld.2.2 | exact cell_alloc' hHeld.2.2 _ | exact below_step hHeld.2.2 hb | exact below_alloc hHeld.2.2 _ | exact Loc.below hHeld.2.2.2.1 hb | exact Loc.alloc hHeld.2.2.2.1 _ | exact cell_b hb hHeld.2.2.2.1 | exact cell_alloc' hHeld.2.2.2.1 _ | exact below_step hHeld.2.2.2.1 hb | exact below_alloc hHeld.2.2.2.1 _ | exact Loc.below hHeld.2.2.2 hb | exact Loc.alloc hHeld.2.2.2 _ | exact cell_b hb hHeld.2.2.2 | exact cell_alloc' hHeld.2.2.2 _ | exact below_step hHeld.2.2.2 hb | exact below_alloc hHeld.2.2.2 _ | exact Loc.below hHeld.2.2.2.2.1 hb | exact Loc.alloc hHeld.2.2.2.2.1 _ | exact cell_b hb hHeld.2.2.2.2.1 | exact cell_alloc' hHeld.2.2.2.2.1 _ | exact below_step hHeld.2.2.2.2.1 hb | exact below_alloc hHeld.2.2.2.2.1 _ | exact Loc.below hHeld.2.2.2.2 hb | exact Loc.alloc hHeld.2.2.2.2 _ | exact cell_b hb hHeld.2.2.2.2 | exact cell_alloc' hHeld.2.2.2.2 _ | exact below_step hHeld.2.2.2.2 hb | exact below_alloc hHeld.2.2.2.2 _ | exact Loc.below hHeld.2.2.2.2.2.1 hb | exact Loc.alloc hHeld.2.2.2.2.2.1 _ | exact cell_b hb hHeld.2.2.2.2.2.1 | exact cell_alloc' hHeld.2.2.2.2.2.1 _ | exact below_step hHeld.2.2.2.2.2.1 hb | exact below_alloc hHeld.2.2.2.2.2.1 _ | exact Loc.below hHeld.2.2.2.2.2 hb | exact Loc.alloc hHeld.2.2.2.2.2 _ | exact cell_b hb hHeld.2.2.2.2.2 | exact cell_alloc' hHeld.2.2.2.2.2 _ | exact below_step hHeld.2.2.2.2.2 hb | exact below_alloc hHeld.2.2.2.2.2 _ | exact Loc.below hHeld.2.2.2.2.2.2.1 hb | exact Loc.alloc hHeld.2.2.2.2.2.2.1 _ | exact cell_b hb hHeld.2.2.2.2.2.2.1 | exact cell_alloc' hHeld.2.2.2.2.2.2.1 _ | exact below_step hHeld.2.2.2.2.2.2.1 hb | exact below_alloc hHeld.2.2.2.2.2.2.1 _ | exact Loc.below hHeld.2.2.2.2.2.2 hb | exact Loc.alloc hHeld.2.2.2.2.2.2 _ | exact cell_b hb hHeld.2.2.2.2.2.2 | exact cell_alloc' hHeld.2.2.2.2.2.2 _ | exact below_step hHeld.2.2.2.2.2.2 hb | exact below_alloc hHeld.2.2.2.2.2.2 _ | exact Loc.below hHeld.2.2.2.2.2.2.2.1 hb | exact Loc.alloc hHeld.2.2.2.2.2.2.2.1 _ | exact cell_b hb hHeld.2.2.2.2.2.2.2.1 | exact cell_alloc' hHeld.2.2.2.2.2.2.2.1 _ | exact below_step hHeld.2.2.2.2.2.2.2.1 hb | exact below_alloc hHeld.2.2.2.2.2.2.2.1 _ | exact Loc.below hHeld.2.2.2.2.2.2.2 hb | exact Loc.alloc hHeld.2.2.2.2.2.2.2 _ | exact cell_b hb hHeld.2.2.2.2.2.2.2 | exact cell_alloc' hHeld.2.2.2.2.2.2.2 _ | exact below_step hHeld.2.2.2.2.2.2.2 hb | exact below_alloc hHeld.2.2.2.2.2.2.2 _ | exact Loc.below hHeld.2.2.2.2.2.2.2.2.1 hb | exact Loc.alloc hHeld.2.2.2.2.2.2.2.2.1 _ | exact cell_b hb hHeld.2.2.2.2.2.2.2.2.1 | exact cell_alloc' hHeld.2.2.2.2.2.2.2.2.1 _ | exact below_step hHeld.2.2.2.2.2.2.2.2.1 hb | exact below_alloc hHeld.2.2.2.2.2.2.2.2.1 _ | exact Loc.below hHeld.2.2.2.2.2.2.2.2 hb | exact Loc.alloc hHeld.2.2.2.2.2.2.2.2 _ | exact cell_b hb hHeld.2.2.2.2.2.2.2.2 | exact cell_alloc' hHeld.2.2.2.2.2.2.2.2 _ | exact below_step hHeld.2.2.2.2.2.2.2.2 hb | exact below_alloc hHeld.2.2.2.2.2.2.2.2 _))) (fun hHeld => ?_)
    clear hK K
    (try simp only [Act.put, List.setIfInBounds_toArray, List.set_cons_zero, List.set_cons_succ])
    clear hb
    refine yP 12 47 hHeld ?_
    refine yT 13 48 hHeld ?_
    refine yReady (rs := [14]) (by kernel_rfl) (by simp) ?_
    refine yLast (Or.inl rfl) rfl (fun K hK => ?_) yNil
    have y2b := cell_b HBX.out y2; have f2b := (HBX.out.frozen (p := ⟨g0, kk * 4 + 2, none⟩) HG0.out.2.1).trans (HFR.out (kk * 4 + 2)); have q2b : g0 < w5.heap.size := (by have := HBX.out.size; have := HG0.out; omega); go_simp
    refine hK.out _ _ ?_
    clear hK K
    (try simp only [Act.put, List.setIfInBounds_toArray, List.set_cons_zero, List.set_cons_succ])
    refine yDone (by kernel_rfl) ?_ _
    have hne0 : w.heap.size ≠ g0 := by have := HG0.out.1; omega
    have hne2 : w.heap.size + 1 + 1 ≠ g0 := by have := HG0.out.1; omega
    have hne3 : B3 ≠ g0 := fun e => HG0.out.2.2.2.1 e.symm
    have hgDf : g0 ∉ Df := fun h => by have := (HNX.out.2 _ h).1; have := HG0.out.2.1; simp at *; omega
    have hseg : Seg g0 (kk * 4) (kk * 4 + 4) w' (w5.setCell ⟨g0, kk * 4 + 2, none⟩ (.slice An (setFlags m.fl n t y).length cn)) := ((Seg.refl HCU.out).keep (HBX.out.block g0 HG0.out.2.1)).set (kk * 4 + 2) (by omega) (by omega) _
    have hfl : owRegs (w5.setCell ⟨g0, kk * 4 + 2, none⟩ (.slice An (setFlags m.fl n t y).length cn)) Df (.slice An (setFlags m.fl n t y).length cn) (setFlags m.fl n t y) := owRow_set ow_reg HX.out (p := ⟨g0, kk * 4 + 2, none⟩) hgDf _
    have hsize : w'.heap.size ≤ w5.heap.size := HBX.out.size
    obtain ⟨Dm, hk1, hk2, hmem⟩ := HFF.out (w5.setCell ⟨g0, kk * 4 + 2, none⟩ (.slice An (setFlags m.fl n t y).length cn)) Df [.int .i64 m.g, .int .i64 m.u, .slice An (setFlags m.fl n t y).length cn, .string m.tx] ⟨m.g, m.u, setFlags m.fl n t y, m.tx⟩
      (fun b hb hbg _ => (Below.heap_setCell w5 ⟨g0, kk * 4 + 2, none⟩ _ b hbg).trans (HBX.out.block b (HN.out.left.2 b hb).2)) hseg
      (fun j u hu => by
        have hc := HCL.out
        rcases j with _ | _ | _ | _ | j
        · rw [World.cell?_setCell_other w5 _ _ _ (by intro e; injection e with _ e; omega)]; exact (cell_b HBX.out (hc 0 _ rfl)).trans (by simpa using hu)
        · rw [World.cell?_setCell_other w5 _ _ _ (by intro e; injection e with _ e; omega)]; exact (cell_b HBX.out (hc 1 _ rfl)).trans (by simpa using hu)
        · exact (World.cell?_setCell_same w5 ⟨g0, kk * 4 + 2, none⟩ _ (cell_b HBX.out (hc 2 _ rfl))).trans (by simpa using hu)
        · rw [World.cell?_setCell_other w5 _ _ _ (by intro e; injection e with _ e; omega)]; exact (cell_b HBX.out (hc 3 _ rfl)).trans (by simpa using hu)
        · simp at hu) ⟨_, rfl, hfl⟩ HNX.out.1 (fun b hb => .inr fun hbD => by have := (HNX.out.2 b hb).1; have h2 := (HN.out.left.2 b hbD).2; simp at this; omega)
    have hDm : ∀ x ∈ Dm, x ∈ D1 ∨ w'.heap.size ≤ x := fun x hx => (hmem x hx).imp id (fun h => (HNX.out.2 x h).1)
    have hlow : ∀ x ∈ Dm, wz.heap.size ≤ x ∧ x < (w5.setCell ⟨g0, kk * 4 + 2, none⟩ (.slice An (setFlags m.fl n t y).length cn)).heap.size := fun x hx => by
      rcases hmem x hx with h | h
      · have := HN.out.left.2 x h; simp; omega
      · have := HNX.out.2 x h; have := HN.out; have := HB.out.size; have := HZ.out; have := HG0.out; simp at *; omega
    have hoff : ∀ x ∈ Dm, x ∉ D2 := fun x hx hx2 => by
      rcases hDm x hx with h | h
      · exact HN.out.off x h hx2
      · have := (HN.out.2 x (by simp [hx2])).2
        omega
    have hn6 : New wz (w5.setCell ⟨g0, kk * 4 + 2, none⟩ (.slice An (setFlags m.fl n t y).length cn)) (Dm ++ D2) := New.both ⟨hk2, hlow⟩ ((HN.out.right.mono HBX.out.size).set _ _) hoff
    have HOg' := Aside.mk (owRow_set ow_int (owRow_below ow_int HOg.out HBX.out) (p := ⟨g0, kk * 4 + 2, none⟩) HG0.out.2.2.2.2 (.slice An (setFlags m.fl n t y).length cn))
    have HOm' := Aside.mk hk1
    have HN' := Aside.mk hn6
    have HB' := Aside.mk (below_set (below_step HB.out HBX.out) (p := ⟨g0, kk * 4 + 2, none⟩) (by show w.heap.size ≤ g0; have := HG0.out.1; omega) (.slice An (setFlags m.fl n t y).length cn))
    have L2' := Aside.mk (hHeld.2.2.1.set (p := ⟨g0, kk * 4 + 2, none⟩) hne2 (.slice An (setFlags m.fl n t y).length cn))
    have L3' := Aside.mk (hHeld.2.2.2.1.set (p := ⟨g0, kk * 4 + 2, none⟩) hne3 (.slice An (setFlags m.fl n t y).length cn))
    obtain ⟨w7, hw7⟩ : ∃ w7, w7 = w5.setCell ⟨g0, kk * 4 + 2, none⟩ (.slice An (setFlags m.fl n t y).length cn) := ⟨_, rfl⟩
    rw [← hw7] at HOg' HOm' HN' HB' L2' L3' ⊢
    clear hw7 hk1 hk2 hmem hDm hlow hoff hn6 hfl hseg hsize hHeld hgDf hne0 hne2 hne3 L0 L1 L2 L3 HOm HOg HN HB l0 l1 l2 l3 q0 q1 q2 q3 f0 f1 f2 f3 hx2 y2 y2b f2b q2b
    have l2 := L2'.out.cells
    have l3 := L3'.out.cells
    have q2 := L2'.out.lt
    have q3 := L3'.out.lt
    have f2 := L2'.out.free
    have f3 := L3'.out.free
    have HDm : Aside (∀ x ∈ Dm, w.heap.size + 3 ≤ x) := ⟨fun x hx => by have := (HN'.out.2 x (by simp [hx])).1; have := HZ.out; omega⟩
    have HDg : Aside (∀ x ∈ D2, w.heap.size + 3 ≤ x) := ⟨fun x hx => by have := (HN'.out.2 x (by simp [hx])).1; have := HZ.out; omega⟩
    have HNx := Aside.mk (HN'.out.from (w0 := w) (by have := HZ.out; omega))
    have HB := HB'
    go_wp2
    refine bodyPost_ret (v := .tuple #[.agg #[.int .i64 b.g, .string b.nm, .int .i64 b.t, .int .i64 b.b, .int .i64 b.nx, .slice (some ⟨g0, 0, none⟩) b.ml.length cm, .slice Ag b.go.length cg], .bool true]) (by simp [results, go_sem, l2, l3, q2, q3]) rfl ?_
    rw [HE.out]
    refine ⟨_, _, Dm ++ D2, rfl, ⟨_, _, Dm, D2, rfl, rfl, ?_, ?_⟩, ?_, ?_⟩
    · (repeat (first | (with_reducible exact HOm'.out) | (with_reducible refine owRow_far ow_mail (w.heap.size + 3) ?_ HDm.out (by first | omega | (dsimp only; omega) | (simp; done) | (simp; omega)) _) | (with_reducible refine owRow_alloc ow_mail ?_ _)))
    · (repeat (first | (with_reducible exact HOg'.out) | (with_reducible refine owRow_far ow_int (w.heap.size + 3) ?_ HDg.out (by first | omega | (dsimp only; omega) | (simp; done) | (simp; omega)) _) | (with_reducible refine owRow_alloc ow_int ?_ _)))
    · (repeat (first | (with_reducible exact HNx.out) | (with_reducible refine New.set ?_ _ _) | (with_reducible refine New.alloc ?_ _) | (with_reducible refine New.drew ?_)))
    · (repeat (first | (with_reducible exact HB.out) | (with_reducible exact Below.refl _ _) | (with_reducible refine below_set ?_ (by first | omega | (dsimp only; omega) | (simp; done) | (simp; omega)) _) | (with_reducible refine below_alloc ?_ _) | (with_reducible refine below_drewN ?_ _) | (with_reducible refine below_drew ?_)))
  all_goals
    have HE : Aside (flagMail b g n t y = (b, false)) := ⟨by unfold flagMail; simp [*]; try omega⟩
    have HKK : Aside (mailAt b.ml g = mailAt b.ml g) := ⟨rfl⟩
    go_enter Try.func171, Try.ntmps171
    go_wp2_with (fail)
    refine (l06Copy_calls _ _ _ b (rdMails_mov (by (repeat (first | (with_reducible exact HB.out) | (with_reducible exact Below.refl _ _) | (with_reducible refine below_set ?_ (by first | omega | (dsimp only; omega) | (simp; done) | (simp; omega)) _) | (with_reducible refine below_alloc ?_ _) | (with_reducible refine below_drewN ?_ _) | (with_reducible refine below_drew ?_)))) HR.out) (rdInts_mov (by (repeat (first | (with_reducible exact HB.out) | (with_reducible exact Below.refl _ _) | (with_reducible refine below_set ?_ (by first | omega | (dsimp only; omega) | (simp; done) | (simp; omega)) _) | (with_reducible refine below_alloc ?_ _) | (with_reducible refine below_drewN ?_ _) | (with_reducible refine below_drew ?_)))) HG.out) HL.out).mono ?_
    rintro e w1 ⟨mx, gx, D, rfl, ho, hn, hb⟩
    obtain ⟨Am, cm, Ag, cg, D1, D2, rfl, rfl, rfl, hom, hog⟩ := box_parts ho
    have L0 := Aside.mk ((((Loc.new w #[.int .i64 b.g, .string b.nm, .int .i64 b.t, .int .i64 b.b, .int .i64 b.nx, .slice A0 b.ml.length c0, .slice A1 b.go.length c1] 32).alloc (.cells #[.int .i64 t, .int .i64 y] 29)).alloc (.cells #[.int .i64 0, .string ⟨#[]⟩, .int .i64 0, .int .i64 0, .int .i64 0, .slice none 0 0, .slice none 0 0] 32)).below hb)
    have L1 := Aside.mk (((Loc.new1 w (.cells #[.int .i64 b.g, .string b.nm, .int .i64 b.t, .int .i64 b.b, .int .i64 b.nx, .slice A0 b.ml.length c0, .slice A1 b.go.length c1] 32) #[.int .i64 t, .int .i64 y] 29).alloc (.cells #[.int .i64 0, .string ⟨#[]⟩, .int .i64 0, .int .i64 0, .int .i64 0, .slice none 0 0, .slice none 0 0] 32)).below hb)
    have L2 := Aside.mk ((Loc.new2 w (.cells #[.int .i64 b.g, .string b.nm, .int .i64 b.t, .int .i64 b.b, .int .i64 b.nx, .slice A0 b.ml.length c0, .slice A1 b.go.length c1] 32) (.cells #[.int .i64 t, .int .i64 y] 29) #[.int .i64 0, .string ⟨#[]⟩, .int .i64 0, .int .i64 0, .int .i64 0, .slice none 0 0, .slice none 0 0] 32).below hb)
    have HB := Aside.mk (below_step (w0 := w) (by (repeat (first | (with_reducible exact HB.out) | (with_reducible exact Below.refl _ _) | (with_reducible refine below_set ?_ (by first | omega | (dsimp only; omega) | (simp; done) | (simp; omega)) _) | (with_reducible refine below_alloc ?_ _) | (with_reducible refine below_drewN ?_ _) | (with_reducible refine below_drew ?_)))) hb)
    have HOm := Aside.mk hom
    have HOg := Aside.mk hog
    have HN : Aside (New wz w1 (D1 ++ D2)) := ⟨hn.from (by have := HZ.out; simp; omega)⟩
    clear ho hom hog hn hb
    have l0 := L0.out.cells
    have l1 := L1.out.cells
    have l2 := L2.out.cells
    have q0 := L0.out.lt
    have q1 := L1.out.lt
    have q2 := L2.out.lt
    go_wp2_with (fail)
    replace L0 := Aside.mk (L0.out.alloc (.cells #[.int .i64 b.g, .string b.nm, .int .i64 b.t, .int .i64 b.b, .int .i64 b.nx, .slice Am b.ml.length cm, .slice Ag b.go.length cg] 32))
    replace L1 := Aside.mk (L1.out.alloc (.cells #[.int .i64 b.g, .string b.nm, .int .i64 b.t, .int .i64 b.b, .int .i64 b.nx, .slice Am b.ml.length cm, .slice Ag b.go.length cg] 32))
    replace L2 := Aside.mk (L2.out.alloc (.cells #[.int .i64 b.g, .string b.nm, .int .i64 b.t, .int .i64 b.b, .int .i64 b.nx, .slice Am b.ml.length cm, .slice Ag b.go.length cg] 32))
    have L3 := Aside.mk (Loc.new w1 #[.int .i64 b.g, .string b.nm, .int .i64 b.t, .int .i64 b.b, .int .i64 b.nx, .slice Am b.ml.length cm, .slice Ag b.go.length cg] 32)
    replace HB := Aside.mk (below_alloc HB.out (.cells #[.int .i64 b.g, .string b.nm, .int .i64 b.t, .int .i64 b.b, .int .i64 b.nx, .slice Am b.ml.length cm, .slice Ag b.go.length cg] 32))
    replace HOm := Aside.mk (owRow_alloc ow_mail HOm.out (.cells #[.int .i64 b.g, .string b.nm, .int .i64 b.t, .int .i64 b.b, .int .i64 b.nx, .slice Am b.ml.length cm, .slice Ag b.go.length cg] 32))
    replace HOg := Aside.mk (owRow_alloc ow_int HOg.out (.cells #[.int .i64 b.g, .string b.nm, .int .i64 b.t, .int .i64 b.b, .int .i64 b.nx, .slice Am b.ml.length cm, .slice Ag b.go.length cg] 32))
    have HN0 := HN
    replace HN := Aside.mk (HN.out.alloc (.cells #[.int .i64 b.g, .string b.nm, .int .i64 b.t, .int .i64 b.b, .int .i64 b.nx, .slice Am b.ml.length cm, .slice Ag b.go.length cg] 32))
    obtain ⟨B3, hB3⟩ : ∃ B3, B3 = w1.heap.size := ⟨_, rfl⟩
    have HB3 : Aside (w.heap.size + 3 ≤ B3 ∧ B3 ∉ D1 ++ D2) := ⟨by have := L2.out.lt; simp at this; omega, fun hx => by have := (HN0.out.2 _ hx).2; omega⟩
    rw [← hB3] at L3
    obtain ⟨w2, hw2⟩ : ∃ w2, w2 = w1.alloc (.cells #[.int .i64 b.g, .string b.nm, .int .i64 b.t, .int .i64 b.b, .int .i64 b.nx, .slice Am b.ml.length cm, .slice Ag b.go.length cg] 32) := ⟨_, rfl⟩
    rw [← hw2] at L0 L1 L2 L3 HB HOm HOg HN
    have l3 := L3.out.cells
    have q3 := L3.out.lt
    have f2 := L2.out.free
    have f3 := L3.out.free
    clear l0 l1 l2 q0 q1 q2 HN0
    have l0 := L0.out.cells
    have l1 := L1.out.cells
    have l2 := L2.out.cells
    have q0 := L0.out.lt
    have q1 := L1.out.lt
    have q2 := L2.out.lt
    try rw [← hB3]
    try rw [← hw2]
    clear hB3 hw2
    go_wp2_with (first
      | (go_at_call 71; refine (specBoxOk_calls _ _ _ b (rdMails_mov HB.out HR.out) (rdInts_mov HB.out HG.out) HT.out.1 HT.out.2).mono ?_; rintro e w' ⟨rfl, hb⟩; replace L0 := Aside.mk (L0.out.below hb); replace L1 := Aside.mk (L1.out.below hb); replace L2 := Aside.mk (L2.out.below hb); replace L3 := Aside.mk (L3.out.below hb); replace HOm := Aside.mk (owRow_below ow_mail HOm.out hb); replace HOg := Aside.mk (owRow_below ow_int HOg.out hb); replace HN := Aside.mk (HN.out.mono hb.size); replace HB := Aside.mk (below_step HB.out hb); (try clear l0); (try clear q0); (try clear f0); (try clear l1); (try clear q1); (try clear f1); (try clear l2); (try clear q2); (try clear f2); (try clear l3); (try clear q3); (try clear f3); have l0 := L0.out.cells; have q0 := L0.out.lt; have f0 := L0.out.free; have l1 := L1.out.cells; have q1 := L1.out.lt; have f1 := L1.out.free; have l2 := L2.out.cells; have q2 := L2.out.lt; have f2 := L2.out.free; have l3 := L3.out.cells; have q3 := L3.out.lt; have f3 := L3.out.free; clear hb)
      | (go_at_call 70; refine (specMailAt_calls _ _ _ b g (rdMails_mov HB.out HR.out) rfl).mono ?_; rintro e w' ⟨he, hb⟩; (try rw [HKK.out] at he); subst he; replace L0 := Aside.mk (L0.out.below hb); replace L1 := Aside.mk (L1.out.below hb); replace L2 := Aside.mk (L2.out.below hb); replace L3 := Aside.mk (L3.out.below hb); replace HOm := Aside.mk (owRow_below ow_mail HOm.out hb); replace HOg := Aside.mk (owRow_below ow_int HOg.out hb); replace HN := Aside.mk (HN.out.mono hb.size); replace HB := Aside.mk (below_step HB.out hb); (try clear l0); (try clear q0); (try clear f0); (try clear l1); (try clear q1); (try clear f1); (try clear l2); (try clear q2); (try clear f2); (try clear l3); (try clear q3); (try clear f3); have l0 := L0.out.cells; have q0 := L0.out.lt; have f0 := L0.out.free; have l1 := L1.out.cells; have q1 := L1.out.lt; have f1 := L1.out.free; have l2 := L2.out.cells; have q2 := L2.out.lt; have f2 := L2.out.free; have l3 := L3.out.cells; have q3 := L3.out.lt; have f3 := L3.out.free; clear hb)
      | (go_at_call 132; refine (l01In_calls _ _ _ _).mono ?_; rintro e w' ⟨rfl, hb⟩; replace L0 := Aside.mk (L0.out.below hb); replace L1 := Aside.mk (L1.out.below hb); replace L2 := Aside.mk (L2.out.below hb); replace L3 := Aside.mk (L3.out.below hb); replace HOm := Aside.mk (owRow_below ow_mail HOm.out hb); replace HOg := Aside.mk (owRow_below ow_int HOg.out hb); replace HN := Aside.mk (HN.out.mono hb.size); replace HB := Aside.mk (below_step HB.out hb); (try clear l0); (try clear q0); (try clear f0); (try clear l1); (try clear q1); (try clear f1); (try clear l2); (try clear q2); (try clear f2); (try clear l3); (try clear q3); (try clear f3); have l0 := L0.out.cells; have q0 := L0.out.lt; have f0 := L0.out.free; have l1 := L1.out.cells; have q1 := L1.out.lt; have f1 := L1.out.free; have l2 := L2.out.cells; have q2 := L2.out.lt; have f2 := L2.out.free; have l3 := L3.out.cells; have q3 := L3.out.lt; have f3 := L3.out.free; clear hb)
      | (go_at_call 149; refine (specStampOk_calls _ _ _).mono ?_; rintro e w' ⟨rfl, hb⟩; replace L0 := Aside.mk (L0.out.below hb); replace L1 := Aside.mk (L1.out.below hb); replace L2 := Aside.mk (L2.out.below hb); replace L3 := Aside.mk (L3.out.below hb); replace HOm := Aside.mk (owRow_below ow_mail HOm.out hb); replace HOg := Aside.mk (owRow_below ow_int HOg.out hb); replace HN := Aside.mk (HN.out.mono hb.size); replace HB := Aside.mk (below_step HB.out hb); (try clear l0); (try clear q0); (try clear f0); (try clear l1); (try clear q1); (try clear f1); (try clear l2); (try clear q2); (try clear f2); (try clear l3); (try clear q3); (try clear f3); have l0 := L0.out.cells; have q0 := L0.out.lt; have f0 := L0.out.free; have l1 := L1.out.cells; have q1 := L1.out.lt; have f1 := L1.out.free; have l2 := L2.out.cells; have q2 := L2.out.lt; have f2 := L2.out.free; have l3 := L3.out.cells; have q3 := L3.out.lt; have f3 := L3.out.free; clear hb))
    refine bodyPost_ret (v := .tuple #[.agg #[.int .i64 b.g, .string b.nm, .int .i64 b.t, .int .i64 b.b, .int .i64 b.nx, .slice Am b.ml.length cm, .slice Ag b.go.length cg], .bool false]) (by simp [results, go_sem, l2, l3, q2, q3]) rfl ?_
    rw [HE.out]
    have HDm : Aside (∀ x ∈ D1, w.heap.size + 3 ≤ x) := ⟨fun x hx => by have := (HN.out.2 x (by simp [hx])).1; have := HZ.out; omega⟩
    have HDg : Aside (∀ x ∈ D2, w.heap.size + 3 ≤ x) := ⟨fun x hx => by have := (HN.out.2 x (by simp [hx])).1; have := HZ.out; omega⟩
    have HN0 := Aside.mk (HN.out.from (w0 := w) (by have := HZ.out; omega))
    refine ⟨_, _, D1 ++ D2, rfl, ⟨_, _, D1, D2, rfl, rfl, ?_, ?_⟩, ?_, ?_⟩
    · (repeat (first | (with_reducible exact HOm.out) | (with_reducible refine owRow_far ow_mail (w.heap.size + 3) ?_ HDm.out (by first | omega | (dsimp only; omega) | (simp; done) | (simp; omega)) _) | (with_reducible refine owRow_alloc ow_mail ?_ _)))
    · (repeat (first | (with_reducible exact HOg.out) | (with_reducible refine owRow_far ow_int (w.heap.size + 3) ?_ HDg.out (by first | omega | (dsimp only; omega) | (simp; done) | (simp; omega)) _) | (with_reducible refine owRow_alloc ow_int ?_ _)))
    · (repeat (first | (with_reducible exact HN0.out) | (with_reducible refine New.set ?_ _ _) | (with_reducible refine New.alloc ?_ _) | (with_reducible refine New.drew ?_)))
    · (repeat (first | (with_reducible exact HB.out) | (with_reducible exact Below.refl _ _) | (with_reducible refine below_set ?_ (by first | omega | (dsimp only; omega) | (simp; done) | (simp; omega)) _) | (with_reducible refine below_alloc ?_ _) | (with_reducible refine below_drewN ?_ _) | (with_reducible refine below_drew ?_)))
end Go.Proofs.Ytjfjpabfkembcaa.H
