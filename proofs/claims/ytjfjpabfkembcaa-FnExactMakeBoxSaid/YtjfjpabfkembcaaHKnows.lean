/- Does a store know a Gid? The program's and the reference's: the walks. -/
import Derived.Test.YtjfjpabfkembcaaHAt2
import Derived.Test.YtjfjpabfkembcaaHStorePre
namespace Go.Proofs.Ytjfjpabfkembcaa.H
open Go.RowKit
set_option linter.unusedVariables false
set_option linter.unusedSimpArgs false
theorem knowsIn_at {l : List Box} {i : Nat} (g : Int) (h : i < l.length) : knowsIn g (l.drop i) = (decide (l[i].g = g) || decide (0 ≤ mailAt l[i].ml g) || has g l[i].go || knowsIn g (l.drop (i + 1))) := by
  rw [List.drop_eq_getElem_cons h]; rfl
set_option maxHeartbeats 2000000 in
set_option maxRecDepth 100000 in
theorem knows_calls (w : World) (bv gv : Value) (s : Store) (g : Int) (h : rdBoxes w bv s.bx) (hg : rdInts w gv s.go) :
    Calls Try.prog 95 #[.agg #[.int .i64 s.by_, .int .i64 s.tm, bv, gv], .int .i64 g] w (RetB (knows s g) w) := by
  obtain ⟨A, c, rfl, _, hm⟩ := rd_len h
  obtain ⟨A1, c1, rfl, _, _⟩ := rd_len hg
  have HR := Aside.mk h
  have HG := Aside.mk hg
  clear h hg
  go_enter Try.func95, Try.ntmps95
  go_wp2
  have L0 := Aside.mk (Loc.new w #[.int .i64 s.by_, .int .i64 s.tm, .slice A s.bx.length c, .slice A1 s.go.length c1] 45)
  have HB := Aside.mk (below_alloc (Below.refl w.heap.size w) (.cells #[.int .i64 s.by_, .int .i64 s.tm, .slice A s.bx.length c, .slice A1 s.go.length c1] 45))
  go_loopw [10] (fun v wr => ∃ i : Nat, i ≤ s.bx.length ∧ v = .int .i64 i ∧ Aside (knows s g = (knowsIn g (s.bx.drop i) || has g s.go)) ∧ Aside (Loc wr w.heap.size #[.int .i64 s.by_, .int .i64 s.tm, .slice A s.bx.length c, .slice A1 s.go.length c1] 45) ∧ Aside (Below w.heap.size w wr)) (fun v _ => s.bx.length - (intOf v).toNat)
  case atStart => exact ⟨0, Nat.zero_le _, rfl, ⟨rfl⟩, L0, HB⟩
  case round =>
    clear L0 HB
    obtain ⟨i, hi, rfl, HE, L0, HB⟩ := hrel
    have l0 := L0.out.cells
    have q0 := L0.out.lt
    by_cases hlt : i < s.bx.length
    · obtain ⟨ad, fv, gw, hA, x0, x1, x2, x3, x4, x5, x6, hf, hh⟩ := rdBoxes_at (rdBoxes_mov HB.out HR.out) i hlt
      subst hA
      have HS := Aside.mk (knowsIn_at g hlt)
      generalize s.bx[i] = m at x0 x1 x2 x3 x4 x5 x6 HS hf hh
      obtain ⟨A2, c2, rfl, _, _⟩ := rd_len hf
      obtain ⟨A3, c3, rfl, _, _⟩ := rd_len hh
      have HF := Aside.mk hf
      have HH := Aside.mk hh
      clear hf hh
      by_cases h1 : m.g = g
      · have HK : Aside (knows s g = true) := ⟨by rw [HE.out, HS.out, decide_eq_true h1]; simp⟩
        clear HE HS
        go_wp2
        go_ret
        exact ⟨ret_b HK.out.symm, below_alloc HB.out _⟩
      · have h1b := beq_eq_false_iff_ne.2 h1
        by_cases h2 : 0 ≤ mailAt m.ml g
        · have HK : Aside (knows s g = true) := ⟨by rw [HE.out, HS.out, decide_eq_true h2]; simp⟩
          clear HE HS
          go_wp2_with (fail)
          refine (mailAt_calls _ _ _ m g (rdMails_mov (below_alloc (Below.refl _ _) _) HF.out) rfl).mono ?_
          rintro e w1 ⟨rfl, hb⟩
          have HB' := Aside.mk (below_step (w0 := w) (by (repeat (first | (with_reducible exact HB.out) | (with_reducible exact Below.refl _ _) | (with_reducible refine below_set ?_ (by first | omega | (dsimp only; omega) | (simp; done) | (simp; omega)) _) | (with_reducible refine below_alloc ?_ _) | (with_reducible refine below_drewN ?_ _) | (with_reducible refine below_drew ?_)))) hb)
          clear hb
          go_wp2
          go_ret
          exact ⟨ret_b HK.out.symm, HB'.out⟩
        · rcases h3 : has g m.go with _ | _
          · have HX := Aside.mk h3
            have HK : Aside (knows s g = (knowsIn g (s.bx.drop (i + 1)) || has g s.go)) := ⟨by rw [HE.out, HS.out, decide_eq_false h1, decide_eq_false h2, h3]; simp⟩
            clear HE HS h3
            go_wp2_with (fail)
            refine (mailAt_calls _ _ _ m g (rdMails_mov (below_alloc (Below.refl _ _) _) HF.out) rfl).mono ?_
            rintro e w1 ⟨rfl, hb⟩
            have L0' := Aside.mk ((L0.out.alloc _).below hb)
            have L1 := Aside.mk ((Loc.new wr #[.int .i64 m.g, .string m.nm, .int .i64 m.t, .int .i64 m.b, .int .i64 m.nx, .slice A2 m.ml.length c2, .slice A3 m.go.length c3] 32).below hb)
            have HB2 := Aside.mk (below_step (w0 := wr) (below_alloc (Below.refl _ _) _) hb)
            clear hb L0 l0 q0
            have l0 := L0'.out.cells
            have l1 := L1.out.cells
            have q1 := L1.out.lt
            go_wp2_with (fail)
            refine (contains_calls _ _ m.go g (rdInts_mov HB2.out HH.out)).mono ?_
            rintro e w2 ⟨he, hb⟩
            rw [HX.out] at he
            subst he
            have L0 := Aside.mk (L0'.out.below hb)
            have HB3 := Aside.mk (below_step HB.out (HB2.out.trans (hb.mono HB2.out.size)))
            clear hb l0 l1 q1 L0' L1
            go_wp2
            go_roundw
            case rel => exact ⟨i + 1, by omega, by go_num, HK, L0, HB3⟩
            case measure => simp [intOf]; omega
          · have HX := Aside.mk h3
            have HK : Aside (knows s g = true) := ⟨by rw [HE.out, HS.out, h3]; simp⟩
            clear HE HS h3
            go_wp2_with (fail)
            refine (mailAt_calls _ _ _ m g (rdMails_mov (below_alloc (Below.refl _ _) _) HF.out) rfl).mono ?_
            rintro e w1 ⟨rfl, hb⟩
            have L1 := Aside.mk ((Loc.new wr #[.int .i64 m.g, .string m.nm, .int .i64 m.t, .int .i64 m.b, .int .i64 m.nx, .slice A2 m.ml.length c2, .slice A3 m.go.length c3] 32).below hb)
            have HB2 := Aside.mk (below_step (w0 := wr) (below_alloc (Below.refl _ _) _) hb)
            clear hb L0 l0 q0
            have l1 := L1.out.cells
            have q1 := L1.out.lt
            go_wp2_with (fail)
            refine (contains_calls _ _ m.go g (rdInts_mov HB2.out HH.out)).mono ?_
            rintro e w2 ⟨he, hb⟩
            rw [HX.out] at he
            subst he
            have HB3 := Aside.mk (below_step HB.out (HB2.out.trans (hb.mono HB2.out.size)))
            clear hb l1 q1 L1
            go_wp2
            go_ret
            exact ⟨ret_b HK.out.symm, HB3.out⟩
    · have hz : i = s.bx.length := by omega
      have HK : Aside (knows s g = has g s.go) := ⟨by rw [HE.out, hz, List.drop_length]; rfl⟩
      clear HE
      have hge : ¬ ((i : Int) < (s.bx.length : Int)) := by omega
      clear hlt hz
      go_wp2_with (fail)
      refine (contains_calls _ _ s.go g (rdInts_mov HB.out HG.out)).mono ?_
      rintro e w1 ⟨rfl, hb⟩
      have HB' := Aside.mk (below_step HB.out hb)
      clear hb
      go_wp2
      go_ret
      exact ⟨ret_b HK.out.symm, HB'.out⟩
def knows2 (g : Int) : List Box → Bool
  | [] => false
  | b :: l => decide (0 ≤ mailAt b.ml g) || has g b.go || knows2 g l
theorem knowsIn_eq (g : Int) : ∀ (l : List Box) (i : Int), 0 ≤ i → knowsIn g l = (decide (0 ≤ boxAtFrom g i l) || knows2 g l)
  | [], i, _ => rfl
  | b :: l, i, hi => by
    have ih := knowsIn_eq g l (i + 1) (by omega)
    unfold knowsIn boxAtFrom knows2
    rw [ih]
    by_cases h : b.g = g
    · rw [if_pos h, decide_eq_true h, decide_eq_true hi]; simp
    · rw [if_neg h, decide_eq_false h]
      cases decide (0 ≤ mailAt b.ml g) <;> cases has g b.go <;> cases decide (0 ≤ boxAtFrom g (i + 1) l) <;> rfl
theorem knows2_at {l : List Box} {i : Nat} (g : Int) (h : i < l.length) : knows2 g (l.drop i) = (decide (0 ≤ mailAt l[i].ml g) || has g l[i].go || knows2 g (l.drop (i + 1))) := by
  rw [List.drop_eq_getElem_cons h]; rfl
set_option maxHeartbeats 2000000 in
set_option maxRecDepth 100000 in
theorem specKnows_calls (w : World) (bv gv : Value) (s : Store) (g : Int) (h : rdBoxes w bv s.bx) (hg : rdInts w gv s.go) :
    Calls Try.prog 88 #[.agg #[.int .i64 s.by_, .int .i64 s.tm, bv, gv], .int .i64 g] w (RetB (knows s g) w) := by
  have HE0 : Aside (knows s g = (decide (0 ≤ boxAt s.bx g) || knows2 g s.bx || has g s.go)) := ⟨by unfold knows boxAt; rw [knowsIn_eq g s.bx 0 (Int.le_refl _)]⟩
  obtain ⟨A, c, rfl, _, hm⟩ := rd_len h
  obtain ⟨A1, c1, rfl, _, _⟩ := rd_len hg
  have HR := Aside.mk h
  have HG := Aside.mk hg
  clear h hg
  by_cases h1 : 0 ≤ boxAt s.bx g
  · have HK : Aside (knows s g = true) := ⟨by rw [HE0.out, decide_eq_true h1]; simp⟩
    go_enter Try.func88, Try.ntmps88
    go_wp2_with (fail)
    refine (specBoxAt_calls _ _ _ s g (rdBoxes_mov (by (repeat (first | (with_reducible exact HB.out) | (with_reducible exact Below.refl _ _) | (with_reducible refine below_set ?_ (by first | omega | (dsimp only; omega) | (simp; done) | (simp; omega)) _) | (with_reducible refine below_alloc ?_ _) | (with_reducible refine below_drewN ?_ _) | (with_reducible refine below_drew ?_)))) HR.out) rfl).mono ?_
    rintro e w1 ⟨rfl, hb⟩
    have HB := Aside.mk (below_step (w0 := w) (by (repeat (first | (with_reducible exact HB.out) | (with_reducible exact Below.refl _ _) | (with_reducible refine below_set ?_ (by first | omega | (dsimp only; omega) | (simp; done) | (simp; omega)) _) | (with_reducible refine below_alloc ?_ _) | (with_reducible refine below_drewN ?_ _) | (with_reducible refine below_drew ?_)))) hb)
    clear hb
    go_wp2
    go_ret
    exact ⟨ret_b HK.out.symm, HB.out⟩
  rcases h2 : has g s.go with _ | _
  all_goals
    have HX := Aside.mk h2
    go_enter Try.func88, Try.ntmps88
    go_wp2_with (fail)
    refine (specBoxAt_calls _ _ _ s g (rdBoxes_mov (by (repeat (first | (with_reducible exact HB.out) | (with_reducible exact Below.refl _ _) | (with_reducible refine below_set ?_ (by first | omega | (dsimp only; omega) | (simp; done) | (simp; omega)) _) | (with_reducible refine below_alloc ?_ _) | (with_reducible refine below_drewN ?_ _) | (with_reducible refine below_drew ?_)))) HR.out) rfl).mono ?_
    rintro e w1 ⟨rfl, hb⟩
    have L0 := Aside.mk ((Loc.new w #[.int .i64 s.by_, .int .i64 s.tm, .slice A s.bx.length c, .slice A1 s.go.length c1] 45).below hb)
    have HB := Aside.mk (below_step (w0 := w) (by (repeat (first | (with_reducible exact HB.out) | (with_reducible exact Below.refl _ _) | (with_reducible refine below_set ?_ (by first | omega | (dsimp only; omega) | (simp; done) | (simp; omega)) _) | (with_reducible refine below_alloc ?_ _) | (with_reducible refine below_drewN ?_ _) | (with_reducible refine below_drew ?_)))) hb)
    clear hb
    have l0 := L0.out.cells
    go_wp2_with (fail)
    refine (l06In_calls _ _ s.go g (rdInts_mov HB.out HG.out)).mono ?_
    rintro e w2 ⟨he, hb⟩
    rw [HX.out] at he
    subst he
    replace L0 := Aside.mk (L0.out.below hb)
    replace HB := Aside.mk (below_step HB.out hb)
    clear hb l0
    have l0 := L0.out.cells
  rotate_left
  · have HK : Aside (knows s g = true) := ⟨by rw [HE0.out, h2]; simp⟩
    clear h2
    go_wp2
    go_ret
    exact ⟨ret_b HK.out.symm, HB.out⟩
  have HE : Aside (knows s g = knows2 g (s.bx.drop 0)) := ⟨by rw [HE0.out, decide_eq_false (show ¬ 0 ≤ boxAt s.bx g by omega), h2]; simp⟩
  clear h2 HE0
  go_wp2
  clear h1
  go_loopw [5] (fun v wr => ∃ i : Nat, i ≤ s.bx.length ∧ v = .int .i64 i ∧ Aside (knows s g = knows2 g (s.bx.drop i)) ∧ Aside (Loc wr w.heap.size #[.int .i64 s.by_, .int .i64 s.tm, .slice A s.bx.length c, .slice A1 s.go.length c1] 45) ∧ Aside (Below w.heap.size w wr)) (fun v _ => s.bx.length - (intOf v).toNat)
  case atStart => exact ⟨0, Nat.zero_le _, rfl, HE, L0, HB⟩
  case round =>
    clear L0 HB HE l0
    obtain ⟨i, hi, rfl, HE, L0, HB⟩ := hrel
    have l0 := L0.out.cells
    have q0 := L0.out.lt
    by_cases hlt : i < s.bx.length
    · obtain ⟨ad, fv, gw, hA, x0, x1, x2, x3, x4, x5, x6, hf, hh⟩ := rdBoxes_at (rdBoxes_mov HB.out HR.out) i hlt
      subst hA
      have HS := Aside.mk (knows2_at g hlt)
      generalize s.bx[i] = m at x0 x1 x2 x3 x4 x5 x6 HS hf hh
      obtain ⟨A2, c2, rfl, _, _⟩ := rd_len hf
      obtain ⟨A3, c3, rfl, _, _⟩ := rd_len hh
      have HF := Aside.mk hf
      have HH := Aside.mk hh
      clear hf hh
      have hq0 : (0 : Int) ≤ (i : Int) := by omega
      have hq1 : (i : Int) < (s.bx.length : Int) := by omega
      by_cases h2 : 0 ≤ mailAt m.ml g
      · have HK : Aside (knows s g = true) := ⟨by rw [HE.out, HS.out, decide_eq_true h2]; simp⟩
        clear HE HS
        go_wp2_with (fail)
        refine (specMailAt_calls _ _ _ m g HF.out rfl).mono ?_
        rintro e w1 ⟨rfl, hb⟩
        have HB' := Aside.mk (below_step HB.out hb)
        clear hb
        go_wp2
        go_ret
        exact ⟨ret_b HK.out.symm, HB'.out⟩
      · rcases h3 : has g m.go with _ | _
        all_goals
          have HX := Aside.mk h3
          have X6 := Aside.mk x6
          clear h3
          go_wp2_with (fail)
          refine (specMailAt_calls _ _ _ m g HF.out rfl).mono ?_
          rintro e w1 ⟨rfl, hb⟩
          replace L0 := Aside.mk (L0.out.below hb)
          have HB' := Aside.mk (below_step HB.out hb)
          replace HH := Aside.mk (rdInts_mov hb HH.out)
          have y6 := cell_b hb X6.out
          clear hb l0 q0 x0 x1 x2 x3 x4 x5 x6
          have l0 := L0.out.cells
          have q0 := L0.out.lt
          go_wp2_with (fail)
          refine (l06In_calls _ _ m.go g HH.out).mono ?_
          rintro e w2 ⟨he, hb⟩
          rw [HX.out] at he
          subst he
          replace L0 := Aside.mk (L0.out.below hb)
          replace HB' := Aside.mk (below_step HB'.out hb)
          clear hb l0 q0 y6
        · have HK : Aside (knows s g = knows2 g (s.bx.drop (i + 1))) := ⟨by rw [HE.out, HS.out, decide_eq_false (show ¬ 0 ≤ mailAt m.ml g by omega), HX.out]; simp⟩
          clear HE HS
          go_wp2
          go_roundw
          case rel => exact ⟨i + 1, by omega, by go_num, HK, L0, HB'⟩
          case measure => simp [intOf]; omega
        · have HK : Aside (knows s g = true) := ⟨by rw [HE.out, HS.out, HX.out]; simp⟩
          clear HE HS
          go_wp2
          go_ret
          exact ⟨ret_b HK.out.symm, HB'.out⟩
    · have hz : i = s.bx.length := by omega
      have HK : Aside (knows s g = false) := ⟨by rw [HE.out, hz, List.drop_length]; rfl⟩
      clear HE
      have hge : ¬ ((i : Int) < (s.bx.length : Int)) := by omega
      clear hlt hz
      go_wp2
      go_ret
      exact ⟨ret_b HK.out.symm, HB.out⟩
end Go.Proofs.Ytjfjpabfkembcaa.H
