/- TakeOut, the program's: the walk. Printed by this session's gen_takeout.py. -/
import Derived.Test.YtjfjpabfkembcaaHAddMail
import Derived.Test.YtjfjpabfkembcaaHSet2
import Derived.Test.YtjfjpabfkembcaaHRegY
import Derived.Test.YtjfjpabfkembcaaHDelete
import Derived.Test.YtjfjpabfkembcaaHAdded
namespace Go.Proofs.Ytjfjpabfkembcaa.H
open Go.RowKit
set_option linter.unusedVariables false
set_option linter.unusedSimpArgs false
set_option maxHeartbeats 2000000 in
set_option maxRecDepth 100000 in
theorem takeOut_calls (w : World) (mv gv : Value) (b : Box) (g : Int) (h : rdMails w mv b.ml) (hg : rdInts w gv b.go) (hl : smBox b) (ht : txBox b) :
    Calls Try.prog 14 #[.agg #[.int .i64 b.g, .string b.nm, .int .i64 b.t, .int .i64 b.b, .int .i64 b.nx, mv, gv], .int .i64 g] w (RetBoxB w (takeOut b g)) := by
  obtain ⟨A0, c0, rfl, _, hm⟩ := rd_len h
  obtain ⟨A1, c1, rfl, _, _⟩ := rd_len hg
  have hl4 : b.ml.length ≤ 4000000 := hl.1.1
  have hl5 : b.go.length ≤ 4000000 := hl.2
  obtain ⟨wz, hwz⟩ : ∃ wz : World, wz.heap.size = w.heap.size + 2 := ⟨(w.alloc (.cells #[] 0)).alloc (.cells #[] 0), by simp⟩
  have HZ := Aside.mk hwz
  clear hwz
  have HR := Aside.mk h
  have HG := Aside.mk hg
  have HL := Aside.mk hl
  have HT := Aside.mk ht
  clear h hg hl ht
  rcases h1 : boxOk b with _ | _
  rotate_left
  by_cases h2 : 0 ≤ mailAt b.ml g
  by_cases h3 : b.go.length < 40
  · obtain ⟨kk, hkk⟩ : ∃ kk : Nat, mailAt b.ml g = (kk : Int) := Int.eq_ofNat_of_zero_le h2
    have hlt : kk < b.ml.length := by have := mailAt_lt h2; rw [hkk] at this; simpa using this
    obtain ⟨ag, hag⟩ : ∃ ag, addedL b.go g = ag := ⟨_, rfl⟩
    have HAG := Aside.mk hag
    have HE := Aside.mk (takeOut_yes h1 hkk h3)
    rw [hag] at HE
    clear hag
    have HKK := Aside.mk hkk
    have HLT := Aside.mk hlt
    have hq0 : ¬ ((kk : Int) < 0) := by omega
    have hq1 : ¬ ((b.go.length : Int) = 40) := by omega
    have hq2 : ((b.go.length : Int) == 40) = false := by simp; omega
    have hq3 : decide ((kk : Int) < 0) = false := decide_eq_false hq0
    have e1 : IntKind.i64.wrap ((kk : Int) + 1) = (kk : Int) + 1 := by rw [IntKind.wrap_i64]; omega
    clear h2 hkk
    go_enter Try.func14, Try.ntmps14
    go_wp2_with (fail)
    refine (copyBox_calls _ _ _ b (rdMails_mov (by (repeat (first | (with_reducible exact HB.out) | (with_reducible exact Below.refl _ _) | (with_reducible refine below_set ?_ (by first | omega | (dsimp only; omega) | (simp; done) | (simp; omega)) _) | (with_reducible refine below_alloc ?_ _) | (with_reducible refine below_drewN ?_ _) | (with_reducible refine below_drew ?_)))) HR.out) (rdInts_mov (by (repeat (first | (with_reducible exact HB.out) | (with_reducible exact Below.refl _ _) | (with_reducible refine below_set ?_ (by first | omega | (dsimp only; omega) | (simp; done) | (simp; omega)) _) | (with_reducible refine below_alloc ?_ _) | (with_reducible refine below_drewN ?_ _) | (with_reducible refine below_drew ?_)))) HG.out) HL.out).mono ?_
    rintro e w1 ⟨mx, gx, D, rfl, ho, hn, hb⟩
    obtain ⟨Am, cm, Ag, cg, D1, D2, rfl, rfl, rfl, hom, hog⟩ := box_parts ho
    have L0 := Aside.mk (((Loc.new w #[.int .i64 b.g, .string b.nm, .int .i64 b.t, .int .i64 b.b, .int .i64 b.nx, .slice A0 b.ml.length c0, .slice A1 b.go.length c1] 32).alloc (.cells #[.int .i64 0, .string ⟨#[]⟩, .int .i64 0, .int .i64 0, .int .i64 0, .slice none 0 0, .slice none 0 0] 32)).below hb)
    have L1 := Aside.mk ((Loc.new1 w (.cells #[.int .i64 b.g, .string b.nm, .int .i64 b.t, .int .i64 b.b, .int .i64 b.nx, .slice A0 b.ml.length c0, .slice A1 b.go.length c1] 32) #[.int .i64 0, .string ⟨#[]⟩, .int .i64 0, .int .i64 0, .int .i64 0, .slice none 0 0, .slice none 0 0] 32).below hb)
    have HB := Aside.mk (below_step (w0 := w) (by (repeat (first | (with_reducible exact HB.out) | (with_reducible exact Below.refl _ _) | (with_reducible refine below_set ?_ (by first | omega | (dsimp only; omega) | (simp; done) | (simp; omega)) _) | (with_reducible refine below_alloc ?_ _) | (with_reducible refine below_drewN ?_ _) | (with_reducible refine below_drew ?_)))) hb)
    have HOm := Aside.mk hom
    have HOg := Aside.mk hog
    have HN : Aside (New wz w1 (D1 ++ D2)) := ⟨hn.from (by have := HZ.out; simp; omega)⟩
    clear ho hom hog hn hb
    have l0 := L0.out.cells
    have l1 := L1.out.cells
    have q0 := L0.out.lt
    have q1 := L1.out.lt
    go_wp2_with (fail)
    replace L0 := Aside.mk (L0.out.alloc (.cells #[.int .i64 b.g, .string b.nm, .int .i64 b.t, .int .i64 b.b, .int .i64 b.nx, .slice Am b.ml.length cm, .slice Ag b.go.length cg] 32))
    replace L1 := Aside.mk (L1.out.alloc (.cells #[.int .i64 b.g, .string b.nm, .int .i64 b.t, .int .i64 b.b, .int .i64 b.nx, .slice Am b.ml.length cm, .slice Ag b.go.length cg] 32))
    have L3 := Aside.mk (Loc.new w1 #[.int .i64 b.g, .string b.nm, .int .i64 b.t, .int .i64 b.b, .int .i64 b.nx, .slice Am b.ml.length cm, .slice Ag b.go.length cg] 32)
    replace HB := Aside.mk (below_alloc HB.out (.cells #[.int .i64 b.g, .string b.nm, .int .i64 b.t, .int .i64 b.b, .int .i64 b.nx, .slice Am b.ml.length cm, .slice Ag b.go.length cg] 32))
    replace HOm := Aside.mk (owRow_alloc ow_mail HOm.out (.cells #[.int .i64 b.g, .string b.nm, .int .i64 b.t, .int .i64 b.b, .int .i64 b.nx, .slice Am b.ml.length cm, .slice Ag b.go.length cg] 32))
    replace HOg := Aside.mk (owRow_alloc ow_int HOg.out (.cells #[.int .i64 b.g, .string b.nm, .int .i64 b.t, .int .i64 b.b, .int .i64 b.nx, .slice Am b.ml.length cm, .slice Ag b.go.length cg] 32))
    have HN0 := HN
    replace HN := Aside.mk (HN.out.alloc (.cells #[.int .i64 b.g, .string b.nm, .int .i64 b.t, .int .i64 b.b, .int .i64 b.nx, .slice Am b.ml.length cm, .slice Ag b.go.length cg] 32))
    obtain ⟨B3, hB3⟩ : ∃ B3, B3 = w1.heap.size := ⟨_, rfl⟩
    have HB3 : Aside (w.heap.size + 2 ≤ B3 ∧ B3 ∉ D1 ++ D2) := ⟨by have := L1.out.lt; simp at this; omega, fun hx => by have := (HN0.out.2 _ hx).2; omega⟩
    rw [← hB3] at L3
    obtain ⟨w2, hw2⟩ : ∃ w2, w2 = w1.alloc (.cells #[.int .i64 b.g, .string b.nm, .int .i64 b.t, .int .i64 b.b, .int .i64 b.nx, .slice Am b.ml.length cm, .slice Ag b.go.length cg] 32) := ⟨_, rfl⟩
    rw [← hw2] at L0 L1 L3 HB HOm HOg HN
    have l3 := L3.out.cells
    have q3 := L3.out.lt
    have f1 := L1.out.free
    have f3 := L3.out.free
    clear l0 l1 q0 q1 HN0
    have l0 := L0.out.cells
    have l1 := L1.out.cells
    have q0 := L0.out.lt
    have q1 := L1.out.lt
    try rw [← hB3]
    try rw [← hw2]
    clear hB3 hw2
    go_wp2_with (first
      | (go_at_call 36; refine (boxOk_calls _ _ _ b (rdMails_mov HB.out HR.out) (rdInts_mov HB.out HG.out) HT.out.1 HT.out.2).mono ?_; rintro e w' ⟨rfl, hb⟩; replace L0 := Aside.mk (L0.out.below hb); replace L1 := Aside.mk (L1.out.below hb); replace L3 := Aside.mk (L3.out.below hb); replace HOm := Aside.mk (owRow_below ow_mail HOm.out hb); replace HOg := Aside.mk (owRow_below ow_int HOg.out hb); replace HN := Aside.mk (HN.out.mono hb.size); replace HB := Aside.mk (below_step HB.out hb); (try clear l0); (try clear q0); (try clear f0); (try clear l1); (try clear q1); (try clear f1); (try clear l3); (try clear q3); (try clear f3); have l0 := L0.out.cells; have q0 := L0.out.lt; have f0 := L0.out.free; have l1 := L1.out.cells; have q1 := L1.out.lt; have f1 := L1.out.free; have l3 := L3.out.cells; have q3 := L3.out.lt; have f3 := L3.out.free; clear hb)
      | (go_at_call 38; refine (mailAt_calls _ _ _ b g (rdMails_mov HB.out HR.out) rfl).mono ?_; rintro e w' ⟨he, hb⟩; (try rw [HKK.out] at he); subst he; replace L0 := Aside.mk (L0.out.below hb); replace L1 := Aside.mk (L1.out.below hb); replace L3 := Aside.mk (L3.out.below hb); replace HOm := Aside.mk (owRow_below ow_mail HOm.out hb); replace HOg := Aside.mk (owRow_below ow_int HOg.out hb); replace HN := Aside.mk (HN.out.mono hb.size); replace HB := Aside.mk (below_step HB.out hb); (try clear l0); (try clear q0); (try clear f0); (try clear l1); (try clear q1); (try clear f1); (try clear l3); (try clear q3); (try clear f3); have l0 := L0.out.cells; have q0 := L0.out.lt; have f0 := L0.out.free; have l1 := L1.out.cells; have q1 := L1.out.lt; have f1 := L1.out.free; have l3 := L3.out.cells; have q3 := L3.out.lt; have f3 := L3.out.free; clear hb))
    clear h1 h3
    refine (delete_calls _ D1 _ b.ml kk HOm.out HN.out.left.1 HLT.out).mono ?_
    rintro e w3 ⟨g0, c', D', hv, he, hom', hnd, hsub, hk⟩
    obtain ⟨n1, hn1⟩ : ∃ n1, n1 = b.ml.length - 1 := ⟨_, rfl⟩
    rw [← hn1] at he hom'
    subst he
    clear hn1
    have HD1 : Aside (∀ x ∈ D1, w.heap.size + 2 ≤ x) := ⟨fun x hx => by have := (HN.out.2 x (by simp [hx])).1; have := HZ.out; omega⟩
    replace L0 := Aside.mk (L0.out.keep hk (fun hx => by have := HD1.out _ hx; omega))
    replace L1 := Aside.mk (L1.out.keep hk (fun hx => by have := HD1.out _ hx; omega))
    replace L3 := Aside.mk (L3.out.keep hk (fun hx => HB3.out.2 (by simp [hx])))
    replace HB := Aside.mk (HB.out.trans (hk.below (fun x hx => by have := HD1.out x hx; omega) HB.out.size))
    replace HOm := Aside.mk hom'
    have HN3 : Aside (New wz w3 D') := ⟨⟨hnd, fun x hx => ⟨(HN.out.2 x (by simp [hsub x hx])).1, by have := (HN.out.2 x (by simp [hsub x hx])).2; have := hk.size; omega⟩⟩⟩
    have HB3' : Aside (w.heap.size + 2 ≤ B3 ∧ B3 ∉ D') := ⟨HB3.out.1, fun hx => HB3.out.2 (by simp [hsub _ hx])⟩
    clear hv hom' hnd hsub hk HOg HN HB3 HD1 l0 l1 l3 q0 q1 q3 f0 f1 f3
    have l0 := L0.out.cells
    have q0 := L0.out.lt
    have l1 := L1.out.cells
    have q1 := L1.out.lt
    have f1 := L1.out.free
    have l3 := L3.out.cells
    have q3 := L3.out.lt
    have f3 := L3.out.free
    go_wp2_with (fail)
    have L3b : Aside (Loc (w3.setCell ⟨B3, 5, none⟩ (.slice (some ⟨g0, 0, none⟩) n1 c')) B3 #[.int .i64 b.g, .string b.nm, .int .i64 b.t, .int .i64 b.b, .int .i64 b.nx, .slice (some ⟨g0, 0, none⟩) n1 c', .slice Ag b.go.length cg] 32) := ⟨L3.out.put 5 (.slice (some ⟨g0, 0, none⟩) n1 c')⟩
    replace L0 := Aside.mk (L0.out.set (p := ⟨B3, 5, none⟩) (by show w.heap.size ≠ B3; have := HB3'.out.1; omega) (.slice (some ⟨g0, 0, none⟩) n1 c'))
    replace L1 := Aside.mk (L1.out.set (p := ⟨B3, 5, none⟩) (by show w.heap.size + 1 ≠ B3; have := HB3'.out.1; omega) (.slice (some ⟨g0, 0, none⟩) n1 c'))
    replace HOm := Aside.mk (owRow_set ow_mail HOm.out (p := ⟨B3, 5, none⟩) HB3'.out.2 (.slice (some ⟨g0, 0, none⟩) n1 c'))
    replace HB := Aside.mk (below_set HB.out (p := ⟨B3, 5, none⟩) (by show w.heap.size ≤ B3; have := HB3'.out.1; omega) (.slice (some ⟨g0, 0, none⟩) n1 c'))
    replace HN3 := Aside.mk (HN3.out.set ⟨B3, 5, none⟩ (.slice (some ⟨g0, 0, none⟩) n1 c'))
    have hcon := added_calls _ _ b.go g (rdInts_mov HB.out HG.out) hl5
    rw [HAG.out] at hcon
    refine hcon.mono ?_
    clear hcon
    rintro e w4 ⟨v4, Dg, rfl, hog, hng, hb⟩
    obtain ⟨An, cn, rfl⟩ := cell_own ow_int hog
    have HOg := Aside.mk hog
    have HN : Aside (New wz w4 (D' ++ Dg)) := ⟨New.app HN3.out (by have := HB.out.size; have := HZ.out; have := L1.out.lt; simp at *; omega) hng hb.size⟩
    have HB3 : Aside (w.heap.size + 2 ≤ B3 ∧ B3 ∉ D' ∧ B3 ∉ Dg) := ⟨HB3'.out.1, HB3'.out.2, fun hx => by have := (hng.2 _ hx).1; have := L3b.out.lt; omega⟩
    replace L0 := Aside.mk (L0.out.below hb)
    replace L1 := Aside.mk (L1.out.below hb)
    replace L3 := Aside.mk (L3b.out.below hb)
    replace HOm := Aside.mk (owRow_below ow_mail HOm.out hb)
    replace HB := Aside.mk (below_step HB.out hb)
    clear hog hng hb L3b HN3 HB3' l0 l1 l3 q0 q1 q3 f1 f3
    have l0 := L0.out.cells
    have q0 := L0.out.lt
    have l1 := L1.out.cells
    have q1 := L1.out.lt
    have f1 := L1.out.free
    have l3 := L3.out.cells
    have q3 := L3.out.lt
    have f3 := L3.out.free
    have HOF := Aside.mk (owRow_set ow_mail HOm.out (p := ⟨B3, 6, none⟩) HB3.out.2.1 (.slice An ag.length cn))
    have HOG := Aside.mk (owRow_set ow_int HOg.out (p := ⟨B3, 6, none⟩) HB3.out.2.2 (.slice An ag.length cn))
    have hne1 : w.heap.size + 1 ≠ B3 := by have := HB3.out.1; omega
    have hne2 : B3 ≠ w.heap.size + 1 := fun e => hne1 e.symm
    clear e1 hq0 hq1 hq2 hq3 hl4 hl5 hm l0 q0
    go_wp2
    have hB3w : w.heap.size ≤ B3 := by have := HB3.out.1; omega
    refine bodyPost_ret (v := .tuple #[.agg #[.int .i64 b.g, .string b.nm, .int .i64 b.t, .int .i64 b.b, .int .i64 b.nx, .slice (some ⟨g0, 0, none⟩) n1 c', .slice An ag.length cn], .bool true]) (by simp [results, go_sem, l1, l3, q1, q3]) rfl ?_
    rw [HE.out]
    have HDm : Aside (∀ x ∈ D', w.heap.size + 2 ≤ x) := ⟨fun x hx => by have := (HN.out.2 x (by simp [hx])).1; have := HZ.out; omega⟩
    have HDg : Aside (∀ x ∈ Dg, w.heap.size + 2 ≤ x) := ⟨fun x hx => by have := (HN.out.2 x (by simp [hx])).1; have := HZ.out; omega⟩
    have HN0 := Aside.mk (HN.out.from (w0 := w) (by have := HZ.out; omega))
    refine ⟨_, _, D' ++ Dg, rfl, ⟨_, _, D', Dg, rfl, rfl, ?_, ?_⟩, ?_, ?_⟩
    · (repeat (first | (with_reducible exact HOF.out) | (with_reducible refine owRow_far ow_mail (w.heap.size + 2) ?_ HDm.out (by first | omega | (dsimp only; omega) | (simp; done) | (simp; omega)) _) | (with_reducible refine owRow_alloc ow_mail ?_ _)))
    · (repeat (first | (with_reducible exact HOG.out) | (with_reducible refine owRow_far ow_int (w.heap.size + 2) ?_ HDg.out (by first | omega | (dsimp only; omega) | (simp; done) | (simp; omega)) _) | (with_reducible refine owRow_alloc ow_int ?_ _)))
    · (repeat (first | (with_reducible exact HN0.out) | (with_reducible refine New.set ?_ _ _) | (with_reducible refine New.alloc ?_ _) | (with_reducible refine New.drew ?_)))
    · (repeat (first | (with_reducible exact HB.out) | (with_reducible exact Below.refl _ _) | (with_reducible refine below_set ?_ (by first | omega | (dsimp only; omega) | (simp; done) | (simp; omega)) _) | (with_reducible refine below_alloc ?_ _) | (with_reducible refine below_drewN ?_ _) | (with_reducible refine below_drew ?_)))
  all_goals
    have HE : Aside (takeOut b g = (b, false)) := ⟨by unfold takeOut; simp [*]; try omega⟩
    have HKK : Aside (mailAt b.ml g = mailAt b.ml g) := ⟨rfl⟩
    (try have h40 := (box_gone h1).2)
    (try have h41 : (b.go.length : Int) = 40 := by omega)
    go_enter Try.func14, Try.ntmps14
    go_wp2_with (fail)
    refine (copyBox_calls _ _ _ b (rdMails_mov (by (repeat (first | (with_reducible exact HB.out) | (with_reducible exact Below.refl _ _) | (with_reducible refine below_set ?_ (by first | omega | (dsimp only; omega) | (simp; done) | (simp; omega)) _) | (with_reducible refine below_alloc ?_ _) | (with_reducible refine below_drewN ?_ _) | (with_reducible refine below_drew ?_)))) HR.out) (rdInts_mov (by (repeat (first | (with_reducible exact HB.out) | (with_reducible exact Below.refl _ _) | (with_reducible refine below_set ?_ (by first | omega | (dsimp only; omega) | (simp; done) | (simp; omega)) _) | (with_reducible refine below_alloc ?_ _) | (with_reducible refine below_drewN ?_ _) | (with_reducible refine below_drew ?_)))) HG.out) HL.out).mono ?_
    rintro e w1 ⟨mx, gx, D, rfl, ho, hn, hb⟩
    obtain ⟨Am, cm, Ag, cg, D1, D2, rfl, rfl, rfl, hom, hog⟩ := box_parts ho
    have L0 := Aside.mk (((Loc.new w #[.int .i64 b.g, .string b.nm, .int .i64 b.t, .int .i64 b.b, .int .i64 b.nx, .slice A0 b.ml.length c0, .slice A1 b.go.length c1] 32).alloc (.cells #[.int .i64 0, .string ⟨#[]⟩, .int .i64 0, .int .i64 0, .int .i64 0, .slice none 0 0, .slice none 0 0] 32)).below hb)
    have L1 := Aside.mk ((Loc.new1 w (.cells #[.int .i64 b.g, .string b.nm, .int .i64 b.t, .int .i64 b.b, .int .i64 b.nx, .slice A0 b.ml.length c0, .slice A1 b.go.length c1] 32) #[.int .i64 0, .string ⟨#[]⟩, .int .i64 0, .int .i64 0, .int .i64 0, .slice none 0 0, .slice none 0 0] 32).below hb)
    have HB := Aside.mk (below_step (w0 := w) (by (repeat (first | (with_reducible exact HB.out) | (with_reducible exact Below.refl _ _) | (with_reducible refine below_set ?_ (by first | omega | (dsimp only; omega) | (simp; done) | (simp; omega)) _) | (with_reducible refine below_alloc ?_ _) | (with_reducible refine below_drewN ?_ _) | (with_reducible refine below_drew ?_)))) hb)
    have HOm := Aside.mk hom
    have HOg := Aside.mk hog
    have HN : Aside (New wz w1 (D1 ++ D2)) := ⟨hn.from (by have := HZ.out; simp; omega)⟩
    clear ho hom hog hn hb
    have l0 := L0.out.cells
    have l1 := L1.out.cells
    have q0 := L0.out.lt
    have q1 := L1.out.lt
    go_wp2_with (fail)
    replace L0 := Aside.mk (L0.out.alloc (.cells #[.int .i64 b.g, .string b.nm, .int .i64 b.t, .int .i64 b.b, .int .i64 b.nx, .slice Am b.ml.length cm, .slice Ag b.go.length cg] 32))
    replace L1 := Aside.mk (L1.out.alloc (.cells #[.int .i64 b.g, .string b.nm, .int .i64 b.t, .int .i64 b.b, .int .i64 b.nx, .slice Am b.ml.length cm, .slice Ag b.go.length cg] 32))
    have L3 := Aside.mk (Loc.new w1 #[.int .i64 b.g, .string b.nm, .int .i64 b.t, .int .i64 b.b, .int .i64 b.nx, .slice Am b.ml.length cm, .slice Ag b.go.length cg] 32)
    replace HB := Aside.mk (below_alloc HB.out (.cells #[.int .i64 b.g, .string b.nm, .int .i64 b.t, .int .i64 b.b, .int .i64 b.nx, .slice Am b.ml.length cm, .slice Ag b.go.length cg] 32))
    replace HOm := Aside.mk (owRow_alloc ow_mail HOm.out (.cells #[.int .i64 b.g, .string b.nm, .int .i64 b.t, .int .i64 b.b, .int .i64 b.nx, .slice Am b.ml.length cm, .slice Ag b.go.length cg] 32))
    replace HOg := Aside.mk (owRow_alloc ow_int HOg.out (.cells #[.int .i64 b.g, .string b.nm, .int .i64 b.t, .int .i64 b.b, .int .i64 b.nx, .slice Am b.ml.length cm, .slice Ag b.go.length cg] 32))
    have HN0 := HN
    replace HN := Aside.mk (HN.out.alloc (.cells #[.int .i64 b.g, .string b.nm, .int .i64 b.t, .int .i64 b.b, .int .i64 b.nx, .slice Am b.ml.length cm, .slice Ag b.go.length cg] 32))
    obtain ⟨B3, hB3⟩ : ∃ B3, B3 = w1.heap.size := ⟨_, rfl⟩
    have HB3 : Aside (w.heap.size + 2 ≤ B3 ∧ B3 ∉ D1 ++ D2) := ⟨by have := L1.out.lt; simp at this; omega, fun hx => by have := (HN0.out.2 _ hx).2; omega⟩
    rw [← hB3] at L3
    obtain ⟨w2, hw2⟩ : ∃ w2, w2 = w1.alloc (.cells #[.int .i64 b.g, .string b.nm, .int .i64 b.t, .int .i64 b.b, .int .i64 b.nx, .slice Am b.ml.length cm, .slice Ag b.go.length cg] 32) := ⟨_, rfl⟩
    rw [← hw2] at L0 L1 L3 HB HOm HOg HN
    have l3 := L3.out.cells
    have q3 := L3.out.lt
    have f1 := L1.out.free
    have f3 := L3.out.free
    clear l0 l1 q0 q1 HN0
    have l0 := L0.out.cells
    have l1 := L1.out.cells
    have q0 := L0.out.lt
    have q1 := L1.out.lt
    try rw [← hB3]
    try rw [← hw2]
    clear hB3 hw2
    go_wp2_with (first
      | (go_at_call 36; refine (boxOk_calls _ _ _ b (rdMails_mov HB.out HR.out) (rdInts_mov HB.out HG.out) HT.out.1 HT.out.2).mono ?_; rintro e w' ⟨rfl, hb⟩; replace L0 := Aside.mk (L0.out.below hb); replace L1 := Aside.mk (L1.out.below hb); replace L3 := Aside.mk (L3.out.below hb); replace HOm := Aside.mk (owRow_below ow_mail HOm.out hb); replace HOg := Aside.mk (owRow_below ow_int HOg.out hb); replace HN := Aside.mk (HN.out.mono hb.size); replace HB := Aside.mk (below_step HB.out hb); (try clear l0); (try clear q0); (try clear f0); (try clear l1); (try clear q1); (try clear f1); (try clear l3); (try clear q3); (try clear f3); have l0 := L0.out.cells; have q0 := L0.out.lt; have f0 := L0.out.free; have l1 := L1.out.cells; have q1 := L1.out.lt; have f1 := L1.out.free; have l3 := L3.out.cells; have q3 := L3.out.lt; have f3 := L3.out.free; clear hb)
      | (go_at_call 38; refine (mailAt_calls _ _ _ b g (rdMails_mov HB.out HR.out) rfl).mono ?_; rintro e w' ⟨he, hb⟩; (try rw [HKK.out] at he); subst he; replace L0 := Aside.mk (L0.out.below hb); replace L1 := Aside.mk (L1.out.below hb); replace L3 := Aside.mk (L3.out.below hb); replace HOm := Aside.mk (owRow_below ow_mail HOm.out hb); replace HOg := Aside.mk (owRow_below ow_int HOg.out hb); replace HN := Aside.mk (HN.out.mono hb.size); replace HB := Aside.mk (below_step HB.out hb); (try clear l0); (try clear q0); (try clear f0); (try clear l1); (try clear q1); (try clear f1); (try clear l3); (try clear q3); (try clear f3); have l0 := L0.out.cells; have q0 := L0.out.lt; have f0 := L0.out.free; have l1 := L1.out.cells; have q1 := L1.out.lt; have f1 := L1.out.free; have l3 := L3.out.cells; have q3 := L3.out.lt; have f3 := L3.out.free; clear hb))
    refine bodyPost_ret (v := .tuple #[.agg #[.int .i64 b.g, .string b.nm, .int .i64 b.t, .int .i64 b.b, .int .i64 b.nx, .slice Am b.ml.length cm, .slice Ag b.go.length cg], .bool false]) (by simp [results, go_sem, l1, l3, q1, q3]) rfl ?_
    rw [HE.out]
    have HDm : Aside (∀ x ∈ D1, w.heap.size + 2 ≤ x) := ⟨fun x hx => by have := (HN.out.2 x (by simp [hx])).1; have := HZ.out; omega⟩
    have HDg : Aside (∀ x ∈ D2, w.heap.size + 2 ≤ x) := ⟨fun x hx => by have := (HN.out.2 x (by simp [hx])).1; have := HZ.out; omega⟩
    have HN0 := Aside.mk (HN.out.from (w0 := w) (by have := HZ.out; omega))
    refine ⟨_, _, D1 ++ D2, rfl, ⟨_, _, D1, D2, rfl, rfl, ?_, ?_⟩, ?_, ?_⟩
    · (repeat (first | (with_reducible exact HOm.out) | (with_reducible refine owRow_far ow_mail (w.heap.size + 2) ?_ HDm.out (by first | omega | (dsimp only; omega) | (simp; done) | (simp; omega)) _) | (with_reducible refine owRow_alloc ow_mail ?_ _)))
    · (repeat (first | (with_reducible exact HOg.out) | (with_reducible refine owRow_far ow_int (w.heap.size + 2) ?_ HDg.out (by first | omega | (dsimp only; omega) | (simp; done) | (simp; omega)) _) | (with_reducible refine owRow_alloc ow_int ?_ _)))
    · (repeat (first | (with_reducible exact HN0.out) | (with_reducible refine New.set ?_ _ _) | (with_reducible refine New.alloc ?_ _) | (with_reducible refine New.drew ?_)))
    · (repeat (first | (with_reducible exact HB.out) | (with_reducible exact Below.refl _ _) | (with_reducible refine below_set ?_ (by first | omega | (dsimp only; omega) | (simp; done) | (simp; omega)) _) | (with_reducible refine below_alloc ?_ _) | (with_reducible refine below_drewN ?_ _) | (with_reducible refine below_drew ?_)))
end Go.Proofs.Ytjfjpabfkembcaa.H
