/- Lists of numbers that ascend, that hold a number; where a mail stands: the walks. -/
import Derived.Test.YtjfjpabfkembcaaHOk1
import Derived.Test.YtjfjpabfkembcaaHReg
namespace Go.Proofs.Ytjfjpabfkembcaa.H
open Go.RowKit
set_option linter.unusedVariables false
set_option linter.unusedSimpArgs false

theorem has_at {x : Int} {l : List Int} {i : Nat} (h : i < l.length) : has x (l.drop i) = (decide (l[i] = x) || has x (l.drop (i + 1))) := by
  rw [List.drop_eq_getElem_cons h]; rfl
theorem has_end {x : Int} {l : List Int} : has x (l.drop l.length) = false := by simp [has]
def RetIdx (x : Int) (l : List Int) (w : World) (e : Ending) (w' : World) : Prop := ∃ r : Int, e = .returned (.int .i64 r) ∧ decide (0 ≤ r) = has x l ∧ Below w.heap.size w w'
set_option maxHeartbeats 2000000 in
set_option maxRecDepth 100000 in
theorem index_calls (w : World) (v : Value) (l : List Int) (x : Int) (h : rdInts w v l) : Calls Try.prog 172 #[v, .int .i64 x] w (RetIdx x l w) := by
  obtain ⟨A, c, rfl, _, hm⟩ := rd_len h
  have HR := Aside.mk h
  clear h
  go_enter Try.func172, Try.ntmps172
  go_wp2
  go_loopw [8] (fun v wr => ∃ i : Nat, i ≤ l.length ∧ v = .int .i64 i ∧ Aside (has x l = has x (l.drop i)) ∧ Aside (Below w.heap.size w wr)) (fun v _ => l.length - (intOf v).toNat)
  case atStart => exact ⟨0, Nat.zero_le _, rfl, ⟨rfl⟩, ⟨Below.refl _ _⟩⟩
  case round =>
    obtain ⟨i, hi, rfl, HE, HB⟩ := hrel
    by_cases hlt : i < l.length
    · obtain ⟨ad, hA, x0⟩ := rdInts_at (rdInts_mov HB.out HR.out) i hlt
      subst hA
      have HS := Aside.mk (has_at (x := x) hlt)
      generalize l[i] = m at x0 HS
      by_cases hx : x = m
      · subst hx
        go_wp2
        go_ret
        exact ⟨_, rfl, by rw [HE.out, HS.out]; simp, HB.out⟩
      · have hx2 : ¬ m = x := fun h => hx h.symm
        have HX := Aside.mk hx2
        go_wp2
        go_roundw
        case rel => exact ⟨i + 1, by omega, by go_num, ⟨by rw [HE.out, HS.out, decide_eq_false HX.out, Bool.false_or]⟩, HB⟩
        case measure => simp [intOf]; omega
    · obtain rfl : i = l.length := by omega
      clear hlt
      go_wp2
      go_ret
      exact ⟨_, rfl, by rw [HE.out, has_end]; rfl, HB.out⟩
set_option maxHeartbeats 2000000 in
set_option maxRecDepth 100000 in
theorem contains_calls (w : World) (v : Value) (l : List Int) (x : Int) (h : rdInts w v l) : Calls Try.prog 121 #[v, .int .i64 x] w (RetB (has x l) w) := by
  have o1 := rd_one h
  have HR := Aside.mk h
  clear h
  go_enter Try.func121, Try.ntmps121
  go_wp2_with (go_at_call 172; refine (index_calls _ _ l x HR.out).mono ?_; rintro e w' ⟨r, rfl, hr, hb⟩; have HR2 := Aside.mk hr; have HB := Aside.mk hb; clear hr hb)
  go_ret
  exact ⟨ret_b HR2.out, HB.out⟩
set_option maxHeartbeats 2000000 in
set_option maxRecDepth 100000 in
theorem l06In_calls (w : World) (v : Value) (l : List Int) (x : Int) (h : rdInts w v l) : Calls Try.prog 151 #[v, .int .i64 x] w (RetB (has x l) w) := by
  obtain ⟨A, c, rfl, _, hm⟩ := rd_len h
  have HR := Aside.mk h
  clear h
  go_enter Try.func151, Try.ntmps151
  go_wp2
  go_loopw [5] (fun v wr => ∃ i : Nat, i ≤ l.length ∧ v = .int .i64 i ∧ Aside (has x l = has x (l.drop i)) ∧ Aside (Below w.heap.size w wr)) (fun v _ => l.length - (intOf v).toNat)
  case atStart => exact ⟨0, Nat.zero_le _, rfl, ⟨rfl⟩, ⟨Below.refl _ _⟩⟩
  case round =>
    obtain ⟨i, hi, rfl, HE, HB⟩ := hrel
    by_cases hlt : i < l.length
    · obtain ⟨ad, hA, x0⟩ := rdInts_at (rdInts_mov HB.out HR.out) i hlt
      subst hA
      have HS := Aside.mk (has_at (x := x) hlt)
      generalize l[i] = m at x0 HS
      by_cases hx : m = x
      · subst hx
        go_wp2
        go_ret
        exact ⟨ret_b (by rw [HE.out, HS.out]; simp), HB.out⟩
      · have HX := Aside.mk hx
        go_wp2
        go_roundw
        case rel => exact ⟨i + 1, by omega, by go_num, ⟨by rw [HE.out, HS.out, decide_eq_false HX.out, Bool.false_or]⟩, HB⟩
        case measure => simp [intOf]; omega
    · obtain rfl : i = l.length := by omega
      clear hlt
      go_wp2
      go_ret
      exact ⟨ret_b (by rw [HE.out, has_end]), HB.out⟩

def prev (l : List Int) (i : Nat) : Option Int := if i = 0 then none else l[i - 1]?
theorem gidsAll_at {l : List Int} {i : Nat} (h : i < l.length) : gidsAll (prev l i) (l.drop i) = (isIn l[i] 1 9999 && above (prev l i) l[i] && gidsAll (prev l (i + 1)) (l.drop (i + 1))) := by
  have e : prev l (i + 1) = some l[i] := by simp [prev, h]
  rw [List.drop_eq_getElem_cons h, e]; rfl
theorem prev_pos {l : List Int} {i : Nat} (hi : 0 < i) (h : i - 1 < l.length) : prev l i = some l[i - 1] := by simp [prev, h, show i ≠ 0 by omega]
set_option maxHeartbeats 2000000 in
set_option maxRecDepth 100000 in
theorem areGids_calls (w : World) (v : Value) (l : List Int) (most : Int) (h : rdInts w v l) : Calls Try.prog 120 #[v, .int .i64 most] w (RetB (gidsOk l most) w) := by
  obtain ⟨A, c, rfl, _, hm⟩ := rd_len h
  have HR := Aside.mk h
  clear h
  have HE : Aside (gidsOk l most = (gidsAll (prev l 0) (l.drop 0) && decide ((l.length : Int) ≤ most))) := ⟨rfl⟩
  go_enter Try.func120, Try.ntmps120
  go_wp2
  go_loopw [9] (fun v wr => ∃ i : Nat, i ≤ l.length ∧ v = .int .i64 i ∧ Aside (gidsOk l most = (gidsAll (prev l i) (l.drop i) && decide ((l.length : Int) ≤ most))) ∧ Aside (Below w.heap.size w wr)) (fun v _ => l.length - (intOf v).toNat)
  case atStart => exact ⟨0, Nat.zero_le _, rfl, HE, ⟨Below.refl _ _⟩⟩
  case round =>
    clear HE
    obtain ⟨i, hi, rfl, HE, HB⟩ := hrel
    by_cases hlt : i < l.length
    · obtain ⟨ad, hA, x0⟩ := rdInts_at (rdInts_mov HB.out HR.out) i hlt
      subst hA
      have HS := Aside.mk (gidsAll_at hlt)
      have q0 : (0 : Int) ≤ (i : Int) := by omega
      have q1 : (i : Int) < (l.length : Int) := by omega
      rcases Nat.eq_zero_or_pos i with hz | hz
      · subst hz
        have HP : Aside (above (prev l 0) l[0] = true) := ⟨rfl⟩
        generalize l[0] = m at x0 HS HP
        rw [add0] at x0
        rcases h1 : isIn m 1 9999 with _ | _
        all_goals
          rw [h1, HP.out] at HS
          go_wp2_with (go_at_call 117; refine (isGid_calls _ _).mono ?_; rintro e w' ⟨rfl, hb⟩; replace HB := Aside.mk (below_step HB.out hb); clear hb)
          first
            | (go_ret; exact ⟨ret_b (by rw [HE.out, HS.out]; rfl), HB.out⟩)
            | (go_roundw; (case rel => exact ⟨1, by omega, by go_num, ⟨by rw [HE.out, HS.out]; rfl⟩, HB⟩); (case measure => simp [intOf]; omega))
      · have hj : i - 1 < l.length := by omega
        obtain ⟨ad2, hA2, y0⟩ := rdInts_at (rdInts_mov HB.out HR.out) (i - 1) hj
        injection hA2 with hA2
        subst hA2
        have HP : Aside (above (prev l i) l[i] = decide (l[i - 1] < l[i])) := ⟨by rw [prev_pos hz hj]; rfl⟩
        generalize l[i] = m at x0 HS HP
        generalize l[i - 1] = m0 at y0 HP
        have q2 : (0 : Int) < (i : Int) := by omega
        rcases h1 : isIn m 1 9999 with _ | _
        rotate_left
        by_cases h2 : m0 < m
        all_goals
          first | rw [h1, HP.out, decide_eq_true h2] at HS | rw [h1, HP.out, decide_eq_false h2] at HS | rw [h1] at HS
          go_wp2_with (go_at_call 117; refine (isGid_calls _ _).mono ?_; rintro e w' ⟨rfl, hb⟩; replace x0 := cell_b hb x0; replace y0 := cell_b hb y0; replace HB := Aside.mk (below_step HB.out hb); clear hb)
          first
            | (go_ret; exact ⟨ret_b (by rw [HE.out, HS.out]; rfl), HB.out⟩)
            | (go_roundw; (case rel => exact ⟨i + 1, by omega, by go_num, ⟨by rw [HE.out, HS.out]; rfl⟩, HB⟩); (case measure => simp [intOf]; omega))
    · obtain rfl : i = l.length := by omega
      clear hlt
      have HF : Aside (gidsAll (prev l l.length) (l.drop l.length) = true) := ⟨by simp [gidsAll]⟩
      go_wp2
      go_ret
      exact ⟨ret_b (by rw [HE.out, HF.out, Bool.true_and]), HB.out⟩
set_option maxHeartbeats 2000000 in
set_option maxRecDepth 100000 in
theorem l06Sorted_calls (w : World) (v : Value) (l : List Int) (most : Int) (h : rdInts w v l) : Calls Try.prog 150 #[v, .int .i64 most] w (RetB (gidsOk l most) w) := by
  obtain ⟨A, c, rfl, _, hm⟩ := rd_len h
  have HR := Aside.mk h
  clear h
  have HE : Aside (gidsOk l most = (gidsAll (prev l 0) (l.drop 0) && decide ((l.length : Int) ≤ most))) := ⟨rfl⟩
  go_enter Try.func150, Try.ntmps150
  go_wp2
  go_loopw [5] (fun v wr => ∃ i : Nat, i ≤ l.length ∧ v = .int .i64 i ∧ Aside (gidsOk l most = (gidsAll (prev l i) (l.drop i) && decide ((l.length : Int) ≤ most))) ∧ Aside (Below w.heap.size w wr)) (fun v _ => l.length - (intOf v).toNat)
  case atStart => exact ⟨0, Nat.zero_le _, rfl, HE, ⟨Below.refl _ _⟩⟩
  case round =>
    clear HE
    obtain ⟨i, hi, rfl, HE, HB⟩ := hrel
    by_cases hlt : i < l.length
    · obtain ⟨ad, hA, x0⟩ := rdInts_at (rdInts_mov HB.out HR.out) i hlt
      subst hA
      have HS := Aside.mk (gidsAll_at hlt)
      have q0 : (0 : Int) ≤ (i : Int) := by omega
      have q1 : (i : Int) < (l.length : Int) := by omega
      rcases Nat.eq_zero_or_pos i with hz | hz
      · subst hz
        have HP : Aside (above (prev l 0) l[0] = true) := ⟨rfl⟩
        generalize l[0] = m at x0 HS HP
        rw [add0] at x0
        rcases h1 : isIn m 1 9999 with _ | _
        · rw [h1, HP.out] at HS
          go_wp2
          refine wp_region_held_drew (S := (fun w' => w'.cell? ad = some (.int .i64 m))) (by kernel_rfl) (by exact x0) (fun hHeld => ?_)
          refine rT 0 12 hHeld ?_
          refine rT 1 13 hHeld ?_
          refine rT 2 14 hHeld ?_
          refine rT 3 15 hHeld ?_
          refine wpAnyH_ready (rs := [4]) (by kernel_rfl) (by simp) ?_
          refine AllReadyH.cons rfl (fun K hK => ?_) AllReadyH.nil
          go_simp
          refine (l01In_calls _ _ _ _).mono ?_; rintro e w' ⟨he, hb⟩; rw [h1] at he; subst he
          refine hK.out _ _ (by ((repeat' apply And.intro) <;> (first | exact Loc.below hHeld.1 hb | exact cell_b hb hHeld.1 | exact below_step hHeld.1 hb | exact Loc.below hHeld hb | exact cell_b hb hHeld | exact below_step hHeld hb | exact Loc.below hHeld.2.1 hb | exact cell_b hb hHeld.2.1 | exact below_step hHeld.2.1 hb | exact Loc.below hHeld.2 hb | exact cell_b hb hHeld.2 | exact below_step hHeld.2 hb | exact Loc.below hHeld.2.2.1 hb | exact cell_b hb hHeld.2.2.1 | exact below_step hHeld.2.2.1 hb | exact Loc.below hHeld.2.2 hb | exact cell_b hb hHeld.2.2 | exact below_step hHeld.2.2 hb | exact Loc.below hHeld.2.2.2.1 hb | exact cell_b hb hHeld.2.2.2.1 | exact below_step hHeld.2.2.2.1 hb | exact Loc.below hHeld.2.2.2 hb | exact cell_b hb hHeld.2.2.2 | exact below_step hHeld.2.2.2 hb | exact Loc.below hHeld.2.2.2.2.1 hb | exact cell_b hb hHeld.2.2.2.2.1 | exact below_step hHeld.2.2.2.2.1 hb | exact Loc.below hHeld.2.2.2.2 hb | exact cell_b hb hHeld.2.2.2.2 | exact below_step hHeld.2.2.2.2 hb | exact Loc.below hHeld.2.2.2.2.2.1 hb | exact cell_b hb hHeld.2.2.2.2.2.1 | exact below_step hHeld.2.2.2.2.2.1 hb | exact Loc.below hHeld.2.2.2.2.2 hb | exact cell_b hb hHeld.2.2.2.2.2 | exact below_step hHeld.2.2.2.2.2 hb))) (fun hHeld => ?_)
          clear hK K
          (try simp only [Act.put, List.setIfInBounds_toArray, List.set_cons_zero, List.set_cons_succ])
          refine rT 5 17 hHeld ?_
          refine rT 6 18 hHeld ?_
          refine rU 7 19 hHeld ?_
          refine rU 8 20 hHeld ?_
          refine rU 9 21 hHeld ?_
          refine rU 10 22 hHeld ?_
          refine rU 11 23 hHeld ?_
          refine rU 12 24 hHeld ?_
          refine rU 13 25 hHeld ?_
          refine rU 14 26 hHeld ?_
          refine rU 15 27 hHeld ?_
          refine rU 16 28 hHeld ?_
          refine rU 17 29 hHeld ?_
          refine rU 18 30 hHeld ?_
          refine rU 19 31 hHeld ?_
          refine rU 20 32 hHeld ?_
          refine rT 21 33 hHeld ?_
          refine wpAnyH_done (by kernel_rfl) ?_ _
          have HB2 := Aside.mk (below_step (below_drew HB.out) hb)
          clear hb
          go_wp2
          go_ret
          exact ⟨ret_b (by rw [HE.out, HS.out]; rfl), HB2.out⟩
        · rw [h1, HP.out] at HS
          go_wp2
          refine wp_region_held_drew (S := (fun w' => w'.cell? ad = some (.int .i64 m))) (by kernel_rfl) (by exact x0) (fun hHeld => ?_)
          refine rT 0 12 hHeld ?_
          refine rT 1 13 hHeld ?_
          refine rT 2 14 hHeld ?_
          refine rT 3 15 hHeld ?_
          refine wpAnyH_ready (rs := [4]) (by kernel_rfl) (by simp) ?_
          refine AllReadyH.cons rfl (fun K hK => ?_) AllReadyH.nil
          go_simp
          refine (l01In_calls _ _ _ _).mono ?_; rintro e w' ⟨he, hb⟩; rw [h1] at he; subst he
          refine hK.out _ _ (by ((repeat' apply And.intro) <;> (first | exact Loc.below hHeld.1 hb | exact cell_b hb hHeld.1 | exact below_step hHeld.1 hb | exact Loc.below hHeld hb | exact cell_b hb hHeld | exact below_step hHeld hb | exact Loc.below hHeld.2.1 hb | exact cell_b hb hHeld.2.1 | exact below_step hHeld.2.1 hb | exact Loc.below hHeld.2 hb | exact cell_b hb hHeld.2 | exact below_step hHeld.2 hb | exact Loc.below hHeld.2.2.1 hb | exact cell_b hb hHeld.2.2.1 | exact below_step hHeld.2.2.1 hb | exact Loc.below hHeld.2.2 hb | exact cell_b hb hHeld.2.2 | exact below_step hHeld.2.2 hb | exact Loc.below hHeld.2.2.2.1 hb | exact cell_b hb hHeld.2.2.2.1 | exact below_step hHeld.2.2.2.1 hb | exact Loc.below hHeld.2.2.2 hb | exact cell_b hb hHeld.2.2.2 | exact below_step hHeld.2.2.2 hb | exact Loc.below hHeld.2.2.2.2.1 hb | exact cell_b hb hHeld.2.2.2.2.1 | exact below_step hHeld.2.2.2.2.1 hb | exact Loc.below hHeld.2.2.2.2 hb | exact cell_b hb hHeld.2.2.2.2 | exact below_step hHeld.2.2.2.2 hb | exact Loc.below hHeld.2.2.2.2.2.1 hb | exact cell_b hb hHeld.2.2.2.2.2.1 | exact below_step hHeld.2.2.2.2.2.1 hb | exact Loc.below hHeld.2.2.2.2.2 hb | exact cell_b hb hHeld.2.2.2.2.2 | exact below_step hHeld.2.2.2.2.2 hb))) (fun hHeld => ?_)
          clear hK K
          (try simp only [Act.put, List.setIfInBounds_toArray, List.set_cons_zero, List.set_cons_succ])
          refine rT 5 17 hHeld ?_
          refine rT 6 18 hHeld ?_
          refine rT 7 19 hHeld ?_
          refine rT 8 20 hHeld ?_
          refine rT 9 21 hHeld ?_
          refine rU 10 22 hHeld ?_
          refine rU 11 23 hHeld ?_
          refine rU 12 24 hHeld ?_
          refine rU 13 25 hHeld ?_
          refine rU 14 26 hHeld ?_
          refine rU 15 27 hHeld ?_
          refine rU 16 28 hHeld ?_
          refine rU 17 29 hHeld ?_
          refine rU 18 30 hHeld ?_
          refine rU 19 31 hHeld ?_
          refine rT 20 32 hHeld ?_
          refine rT 21 33 hHeld ?_
          refine wpAnyH_done (by kernel_rfl) ?_ _
          have HB2 := Aside.mk (below_step (below_drew HB.out) hb)
          clear hb
          go_wp2
          go_roundw
          (case rel => exact ⟨1, by omega, by go_num, ⟨by rw [HE.out, HS.out]; rfl⟩, HB2⟩)
          (case measure => simp [intOf]; omega)
      · have hj : i - 1 < l.length := by omega
        obtain ⟨ad2, hA2, y0⟩ := rdInts_at (rdInts_mov HB.out HR.out) (i - 1) hj
        injection hA2 with hA2
        subst hA2
        have HP : Aside (above (prev l i) l[i] = decide (l[i - 1] < l[i])) := ⟨by rw [prev_pos hz hj]; rfl⟩
        generalize l[i] = m at x0 HS HP
        generalize l[i - 1] = m0 at y0 HP
        have q2 : (0 : Int) < (i : Int) := by omega
        have q3 : (0 : Int) ≤ (i : Int) - 1 := by omega
        have q4 : (i : Int) - 1 < (l.length : Int) := by omega
        have q5 : (1 : Int) ≤ (i : Int) := by omega
        have hw : IntKind.i64.wrap ((i : Int) - 1) = (i : Int) - 1 := IntWalk.i64_in _ (by omega)
        rcases h1 : isIn m 1 9999 with _ | _
        · rw [h1] at HS
          go_wp2
          refine wp_region_held_drew (S := (fun w' => w'.cell? (ad.add i) = some (.int .i64 m) ∧ w'.cell? (ad.add (i - 1)) = some (.int .i64 m0))) (by kernel_rfl) (by exact ⟨x0, y0⟩) (fun hHeld => ?_)
          refine rT 0 12 hHeld ?_
          refine rT 1 13 hHeld ?_
          refine rT 2 14 hHeld ?_
          refine rT 3 15 hHeld ?_
          refine wpAnyH_ready (rs := [4]) (by kernel_rfl) (by simp) ?_
          refine AllReadyH.cons rfl (fun K hK => ?_) AllReadyH.nil
          go_simp
          refine (l01In_calls _ _ _ _).mono ?_; rintro e w' ⟨he, hb⟩; rw [h1] at he; subst he
          refine hK.out _ _ (by ((repeat' apply And.intro) <;> (first | exact Loc.below hHeld.1 hb | exact cell_b hb hHeld.1 | exact below_step hHeld.1 hb | exact Loc.below hHeld hb | exact cell_b hb hHeld | exact below_step hHeld hb | exact Loc.below hHeld.2.1 hb | exact cell_b hb hHeld.2.1 | exact below_step hHeld.2.1 hb | exact Loc.below hHeld.2 hb | exact cell_b hb hHeld.2 | exact below_step hHeld.2 hb | exact Loc.below hHeld.2.2.1 hb | exact cell_b hb hHeld.2.2.1 | exact below_step hHeld.2.2.1 hb | exact Loc.below hHeld.2.2 hb | exact cell_b hb hHeld.2.2 | exact below_step hHeld.2.2 hb | exact Loc.below hHeld.2.2.2.1 hb | exact cell_b hb hHeld.2.2.2.1 | exact below_step hHeld.2.2.2.1 hb | exact Loc.below hHeld.2.2.2 hb | exact cell_b hb hHeld.2.2.2 | exact below_step hHeld.2.2.2 hb | exact Loc.below hHeld.2.2.2.2.1 hb | exact cell_b hb hHeld.2.2.2.2.1 | exact below_step hHeld.2.2.2.2.1 hb | exact Loc.below hHeld.2.2.2.2 hb | exact cell_b hb hHeld.2.2.2.2 | exact below_step hHeld.2.2.2.2 hb | exact Loc.below hHeld.2.2.2.2.2.1 hb | exact cell_b hb hHeld.2.2.2.2.2.1 | exact below_step hHeld.2.2.2.2.2.1 hb | exact Loc.below hHeld.2.2.2.2.2 hb | exact cell_b hb hHeld.2.2.2.2.2 | exact below_step hHeld.2.2.2.2.2 hb))) (fun hHeld => ?_)
          clear hK K
          (try simp only [Act.put, List.setIfInBounds_toArray, List.set_cons_zero, List.set_cons_succ])
          refine rT 5 17 hHeld ?_
          refine rT 6 18 hHeld ?_
          refine rU 7 19 hHeld ?_
          refine rU 8 20 hHeld ?_
          refine rU 9 21 hHeld ?_
          refine rU 10 22 hHeld ?_
          refine rU 11 23 hHeld ?_
          refine rU 12 24 hHeld ?_
          refine rU 13 25 hHeld ?_
          refine rU 14 26 hHeld ?_
          refine rU 15 27 hHeld ?_
          refine rU 16 28 hHeld ?_
          refine rU 17 29 hHeld ?_
          refine rU 18 30 hHeld ?_
          refine rU 19 31 hHeld ?_
          refine rU 20 32 hHeld ?_
          refine rT 21 33 hHeld ?_
          refine wpAnyH_done (by kernel_rfl) ?_ _
          have HB2 := Aside.mk (below_step (below_drew HB.out) hb)
          clear hb hw
          go_wp2
          go_ret
          exact ⟨ret_b (by rw [HE.out, HS.out]; rfl), HB2.out⟩
        · by_cases h2 : m0 < m
          · rw [h1, HP.out, decide_eq_true h2] at HS
            go_wp2
            refine wp_region_held_drew (S := (fun w' => w'.cell? (ad.add i) = some (.int .i64 m) ∧ w'.cell? (ad.add (i - 1)) = some (.int .i64 m0))) (by kernel_rfl) (by exact ⟨x0, y0⟩) (fun hHeld => ?_)
            refine rT 0 12 hHeld ?_
            refine rT 1 13 hHeld ?_
            refine rT 2 14 hHeld ?_
            refine rT 3 15 hHeld ?_
            refine wpAnyH_ready (rs := [4]) (by kernel_rfl) (by simp) ?_
            refine AllReadyH.cons rfl (fun K hK => ?_) AllReadyH.nil
            go_simp
            refine (l01In_calls _ _ _ _).mono ?_; rintro e w' ⟨he, hb⟩; rw [h1] at he; subst he
            refine hK.out _ _ (by ((repeat' apply And.intro) <;> (first | exact Loc.below hHeld.1 hb | exact cell_b hb hHeld.1 | exact below_step hHeld.1 hb | exact Loc.below hHeld hb | exact cell_b hb hHeld | exact below_step hHeld hb | exact Loc.below hHeld.2.1 hb | exact cell_b hb hHeld.2.1 | exact below_step hHeld.2.1 hb | exact Loc.below hHeld.2 hb | exact cell_b hb hHeld.2 | exact below_step hHeld.2 hb | exact Loc.below hHeld.2.2.1 hb | exact cell_b hb hHeld.2.2.1 | exact below_step hHeld.2.2.1 hb | exact Loc.below hHeld.2.2 hb | exact cell_b hb hHeld.2.2 | exact below_step hHeld.2.2 hb | exact Loc.below hHeld.2.2.2.1 hb | exact cell_b hb hHeld.2.2.2.1 | exact below_step hHeld.2.2.2.1 hb | exact Loc.below hHeld.2.2.2 hb | exact cell_b hb hHeld.2.2.2 | exact below_step hHeld.2.2.2 hb | exact Loc.below hHeld.2.2.2.2.1 hb | exact cell_b hb hHeld.2.2.2.2.1 | exact below_step hHeld.2.2.2.2.1 hb | exact Loc.below hHeld.2.2.2.2 hb | exact cell_b hb hHeld.2.2.2.2 | exact below_step hHeld.2.2.2.2 hb | exact Loc.below hHeld.2.2.2.2.2.1 hb | exact cell_b hb hHeld.2.2.2.2.2.1 | exact below_step hHeld.2.2.2.2.2.1 hb | exact Loc.below hHeld.2.2.2.2.2 hb | exact cell_b hb hHeld.2.2.2.2.2 | exact below_step hHeld.2.2.2.2.2 hb))) (fun hHeld => ?_)
            clear hK K
            (try simp only [Act.put, List.setIfInBounds_toArray, List.set_cons_zero, List.set_cons_succ])
            refine rT 5 17 hHeld ?_
            refine rT 6 18 hHeld ?_
            refine rT 7 19 hHeld ?_
            refine rT 8 20 hHeld ?_
            refine rT 9 21 hHeld ?_
            refine rT 10 22 hHeld ?_
            refine rT 11 23 hHeld ?_
            refine rT 12 24 hHeld ?_
            refine rT 13 25 hHeld ?_
            refine rT 14 26 hHeld ?_
            refine rT 15 27 hHeld ?_
            refine rT 16 28 hHeld ?_
            refine rT 17 29 hHeld ?_
            refine rT 18 30 hHeld ?_
            refine rT 19 31 hHeld ?_
            refine rT 20 32 hHeld ?_
            refine rT 21 33 hHeld ?_
            refine wpAnyH_done (by kernel_rfl) ?_ _
            have HB2 := Aside.mk (below_step (below_drew HB.out) hb)
            clear hb hw
            go_wp2
            go_roundw
            (case rel => exact ⟨i + 1, by omega, by go_num, ⟨by rw [HE.out, HS.out]; rfl⟩, HB2⟩)
            (case measure => simp [intOf]; omega)
          · rw [h1, HP.out, decide_eq_false h2] at HS
            go_wp2
            refine wp_region_held_drew (S := (fun w' => w'.cell? (ad.add i) = some (.int .i64 m) ∧ w'.cell? (ad.add (i - 1)) = some (.int .i64 m0))) (by kernel_rfl) (by exact ⟨x0, y0⟩) (fun hHeld => ?_)
            refine rT 0 12 hHeld ?_
            refine rT 1 13 hHeld ?_
            refine rT 2 14 hHeld ?_
            refine rT 3 15 hHeld ?_
            refine wpAnyH_ready (rs := [4]) (by kernel_rfl) (by simp) ?_
            refine AllReadyH.cons rfl (fun K hK => ?_) AllReadyH.nil
            go_simp
            refine (l01In_calls _ _ _ _).mono ?_; rintro e w' ⟨he, hb⟩; rw [h1] at he; subst he
            refine hK.out _ _ (by ((repeat' apply And.intro) <;> (first | exact Loc.below hHeld.1 hb | exact cell_b hb hHeld.1 | exact below_step hHeld.1 hb | exact Loc.below hHeld hb | exact cell_b hb hHeld | exact below_step hHeld hb | exact Loc.below hHeld.2.1 hb | exact cell_b hb hHeld.2.1 | exact below_step hHeld.2.1 hb | exact Loc.below hHeld.2 hb | exact cell_b hb hHeld.2 | exact below_step hHeld.2 hb | exact Loc.below hHeld.2.2.1 hb | exact cell_b hb hHeld.2.2.1 | exact below_step hHeld.2.2.1 hb | exact Loc.below hHeld.2.2 hb | exact cell_b hb hHeld.2.2 | exact below_step hHeld.2.2 hb | exact Loc.below hHeld.2.2.2.1 hb | exact cell_b hb hHeld.2.2.2.1 | exact below_step hHeld.2.2.2.1 hb | exact Loc.below hHeld.2.2.2 hb | exact cell_b hb hHeld.2.2.2 | exact below_step hHeld.2.2.2 hb | exact Loc.below hHeld.2.2.2.2.1 hb | exact cell_b hb hHeld.2.2.2.2.1 | exact below_step hHeld.2.2.2.2.1 hb | exact Loc.below hHeld.2.2.2.2 hb | exact cell_b hb hHeld.2.2.2.2 | exact below_step hHeld.2.2.2.2 hb | exact Loc.below hHeld.2.2.2.2.2.1 hb | exact cell_b hb hHeld.2.2.2.2.2.1 | exact below_step hHeld.2.2.2.2.2.1 hb | exact Loc.below hHeld.2.2.2.2.2 hb | exact cell_b hb hHeld.2.2.2.2.2 | exact below_step hHeld.2.2.2.2.2 hb))) (fun hHeld => ?_)
            clear hK K
            (try simp only [Act.put, List.setIfInBounds_toArray, List.set_cons_zero, List.set_cons_succ])
            refine rT 5 17 hHeld ?_
            refine rT 6 18 hHeld ?_
            refine rT 7 19 hHeld ?_
            refine rT 8 20 hHeld ?_
            refine rT 9 21 hHeld ?_
            refine rT 10 22 hHeld ?_
            refine rT 11 23 hHeld ?_
            refine rT 12 24 hHeld ?_
            refine rT 13 25 hHeld ?_
            refine rT 14 26 hHeld ?_
            refine rT 15 27 hHeld ?_
            refine rT 16 28 hHeld ?_
            refine rT 17 29 hHeld ?_
            refine rT 18 30 hHeld ?_
            refine rT 19 31 hHeld ?_
            refine rT 20 32 hHeld ?_
            refine rT 21 33 hHeld ?_
            refine wpAnyH_done (by kernel_rfl) ?_ _
            have HB2 := Aside.mk (below_step (below_drew HB.out) hb)
            clear hb hw
            go_wp2
            go_ret
            exact ⟨ret_b (by rw [HE.out, HS.out]; rfl), HB2.out⟩
    · obtain rfl : i = l.length := by omega
      clear hlt
      have HF : Aside (gidsAll (prev l l.length) (l.drop l.length) = true) := ⟨by simp [gidsAll]⟩
      go_wp2
      go_ret
      exact ⟨ret_b (by rw [HE.out, HF.out, Bool.true_and]), HB.out⟩
end Go.Proofs.Ytjfjpabfkembcaa.H
