/- Is a box right? The program's and the reference's: the walks. -/
import Derived.Test.YtjfjpabfkembcaaHAt
import Derived.Test.YtjfjpabfkembcaaHBoxPre
namespace Go.Proofs.Ytjfjpabfkembcaa.H
open Go.RowKit
set_option linter.unusedVariables false
set_option linter.unusedSimpArgs false

set_option maxHeartbeats 2000000 in
set_option maxRecDepth 100000 in
theorem specBoxOk_calls (w : World) (mv gv : Value) (b : Box) (h : rdMails w mv b.ml) (hg : rdInts w gv b.go) (hn : b.nm.size ≤ 9223372036854775807) (ht : ∀ m ∈ b.ml, m.tx.size ≤ 9223372036854775807) :
    Calls Try.prog 71 #[.agg #[.int .i64 b.g, .string b.nm, .int .i64 b.t, .int .i64 b.b, .int .i64 b.nx, mv, gv]] w (RetB (boxOk b) w) := by
  obtain ⟨A, c, rfl, _, hm⟩ := rd_len h
  have ogv := rd_one hg
  have HR := Aside.mk h
  have HG := Aside.mk hg
  have HT := Aside.mk ht
  clear h hg ht
  rcases h1 : isIn b.g 1 9999 with _ | _
  rotate_left
  rcases h2 : nameOk b.nm with _ | _
  rotate_left
  rcases h3 : stampOk b.t b.b with _ | _
  rotate_left
  rcases h4 : isIn b.nx 1 10000 with _ | _
  rotate_left
  by_cases h5 : b.ml.length ≤ 10
  rcases h6 : gidsOk b.go 40 with _ | _
  rotate_left
  · have HE : Aside (boxOk b = mailsIn b 0 none (b.ml.drop 0)) := ⟨by simp [boxOk, boxHead, h1, h2, h3, h4, h5, h6]⟩
    go_enter Try.func71, Try.ntmps71
    go_wp2_with (fail)
    (have L0 := Aside.mk (Loc.new w #[.int .i64 b.g, .string b.nm, .int .i64 b.t, .int .i64 b.b, .int .i64 b.nx, .slice A b.ml.length c, gv] 32); have HB := Aside.mk (below_alloc (Below.refl _ w) (.cells #[.int .i64 b.g, .string b.nm, .int .i64 b.t, .int .i64 b.b, .int .i64 b.nx, .slice A b.ml.length c, gv] 32)); have l0 := L0.out.cells)
    go_wp2_with (first
      | (go_at_call 132; refine (l01In_calls _ _ _ _).mono ?_; rintro e w' ⟨rfl, hb⟩; replace L0 := Aside.mk (L0.out.below hb); replace HB := Aside.mk (below_step HB.out hb); clear l0 hb; have l0 := L0.out.cells)
      | (go_at_call 148; refine (specNameOk_calls _ _ hn).mono ?_; rintro e w' ⟨rfl, hb⟩; replace L0 := Aside.mk (L0.out.below hb); replace HB := Aside.mk (below_step HB.out hb); clear l0 hb; have l0 := L0.out.cells)
      | (go_at_call 149; refine (specStampOk_calls _ _ _).mono ?_; rintro e w' ⟨rfl, hb⟩; replace L0 := Aside.mk (L0.out.below hb); replace HB := Aside.mk (below_step HB.out hb); clear l0 hb; have l0 := L0.out.cells)
      | (go_at_call 150; refine (l06Sorted_calls _ _ b.go _ (rdInts_mov HB.out HG.out)).mono ?_; rintro e w' ⟨rfl, hb⟩; replace L0 := Aside.mk (L0.out.below hb); replace HB := Aside.mk (below_step HB.out hb); clear l0 hb; have l0 := L0.out.cells))
    clear h1 h2 h3 h4 h5 h6
    go_loopw [3] (fun v wr => ∃ i : Nat, i ≤ b.ml.length ∧ v = .int .i64 i ∧ Aside (boxOk b = mailsIn b i (prevU b.ml i) (b.ml.drop i)) ∧ Aside (Loc wr w.heap.size #[.int .i64 b.g, .string b.nm, .int .i64 b.t, .int .i64 b.b, .int .i64 b.nx, .slice A b.ml.length c, gv] 32) ∧ Aside (Below w.heap.size w wr)) (fun v _ => b.ml.length - (intOf v).toNat)
    case atStart => exact ⟨0, Nat.zero_le _, rfl, HE, L0, HB⟩
    case round =>
      clear HE L0 HB l0
      obtain ⟨i, hi, rfl, HE, L0, HB⟩ := hrel
      have l0 := L0.out.cells
      by_cases hlt : i < b.ml.length
      · obtain ⟨ad, fv, hA, x0, x1, x2, x3, hf⟩ := rdMails_at (rdMails_mov HB.out HR.out) i hlt
        subst hA
        have HS := Aside.mk (mailsIn_at (b := b) hlt)
        have HTX := Aside.mk (HT.out b.ml[i] (List.getElem_mem hlt))
        have q0 : (0 : Int) ≤ (i : Int) := by omega
        have q1 : (i : Int) < (b.ml.length : Int) := by omega
        have hlo := L0.out.lt
        rcases Nat.eq_zero_or_pos i with hz | hz
        · subst hz
          generalize b.ml[0] = m at x0 x1 x2 x3 HS hf HTX
          obtain ⟨A2, c2, rfl, _, _⟩ := rd_len hf
          have HF := Aside.mk hf
          clear hf
          have HP : Aside (above (prevU b.ml 0) m.u = true) := ⟨rfl⟩
          rw [Nat.zero_mul] at x0 x1 x2 x3
          rw [add0] at x0 x1 x2 x3
          rcases h1 : mailOk m with _ | _
          · skip
            have HK : Aside (mailIn b (0 : Nat) (prevU b.ml 0) m = false) := ⟨by first | (simp [mailIn, HP.out, h1]; done) | (simp [mailIn, HP.out, h1]; intro hh; omega)⟩
            clear HP
            rw [HK.out] at HS
            go_wp2
            refine wp_region_held_drew (S := (fun w' => Loc w' w.heap.size #[.int .i64 b.g, .string b.nm, .int .i64 b.t, .int .i64 b.b, .int .i64 b.nx, .slice (some ad) b.ml.length c, gv] 32 ∧ Loc w' wr.heap.size #[.int .i64 m.g, .int .i64 m.u, .slice A2 m.fl.length c2, .string m.tx] 58 ∧ Below w.heap.size w w' ∧ Below wr.heap.size wr w')) (by kernel_rfl) (by exact ⟨(L0.out.alloc _).drew, (Loc.new wr _ _).drew, below_drew (below_alloc HB.out _), below_drew (below_alloc (Below.refl _ _) _)⟩) (fun hHeld => ?_)
            refine rT 0 51 hHeld ?_
            refine wpAnyH_ready (rs := [1]) (by kernel_rfl) (by simp) ?_
            refine AllReadyH.cons rfl (fun K hK => ?_) AllReadyH.nil
            go_simp
            refine (specMailOk_calls _ _ m (rdRegs_mov hHeld.2.2.2 HF.out) HTX.out).mono ?_; rintro e w1 ⟨he, hb⟩; rw [h1] at he; subst he
            refine hK.out _ _ (by ((repeat' apply And.intro) <;> (first | exact Loc.below hHeld.1 hb | exact cell_b hb hHeld.1 | exact below_step hHeld.1 hb | exact Loc.below hHeld hb | exact cell_b hb hHeld | exact below_step hHeld hb | exact Loc.below hHeld.2.1 hb | exact cell_b hb hHeld.2.1 | exact below_step hHeld.2.1 hb | exact Loc.below hHeld.2 hb | exact cell_b hb hHeld.2 | exact below_step hHeld.2 hb | exact Loc.below hHeld.2.2.1 hb | exact cell_b hb hHeld.2.2.1 | exact below_step hHeld.2.2.1 hb | exact Loc.below hHeld.2.2 hb | exact cell_b hb hHeld.2.2 | exact below_step hHeld.2.2 hb | exact Loc.below hHeld.2.2.2.1 hb | exact cell_b hb hHeld.2.2.2.1 | exact below_step hHeld.2.2.2.1 hb | exact Loc.below hHeld.2.2.2 hb | exact cell_b hb hHeld.2.2.2 | exact below_step hHeld.2.2.2 hb | exact Loc.below hHeld.2.2.2.2.1 hb | exact cell_b hb hHeld.2.2.2.2.1 | exact below_step hHeld.2.2.2.2.1 hb | exact Loc.below hHeld.2.2.2.2 hb | exact cell_b hb hHeld.2.2.2.2 | exact below_step hHeld.2.2.2.2 hb | exact Loc.below hHeld.2.2.2.2.2.1 hb | exact cell_b hb hHeld.2.2.2.2.2.1 | exact below_step hHeld.2.2.2.2.2.1 hb | exact Loc.below hHeld.2.2.2.2.2 hb | exact cell_b hb hHeld.2.2.2.2.2 | exact below_step hHeld.2.2.2.2.2 hb))) (fun hHeld => ?_)
            clear hK K
            (try simp only [Act.put, List.setIfInBounds_toArray, List.set_cons_zero, List.set_cons_succ])
            refine rT 2 53 hHeld ?_
            refine rT 3 54 hHeld ?_
            refine rU 4 55 hHeld ?_
            refine rU 5 56 hHeld ?_
            refine rU 6 57 hHeld ?_
            refine rU 7 58 hHeld ?_
            refine rU 8 59 hHeld ?_
            refine rT 9 60 hHeld ?_
            refine rT 10 61 hHeld ?_
            refine rU 11 62 hHeld ?_
            refine rU 12 63 hHeld ?_
            refine rU 13 64 hHeld ?_
            refine rU 14 65 hHeld ?_
            refine rU 15 66 hHeld ?_
            refine rU 16 67 hHeld ?_
            refine rU 17 68 hHeld ?_
            refine rU 18 69 hHeld ?_
            refine rU 19 70 hHeld ?_
            refine rU 20 71 hHeld ?_
            refine rU 21 72 hHeld ?_
            refine rU 22 73 hHeld ?_
            refine rU 23 74 hHeld ?_
            refine rU 24 75 hHeld ?_
            refine rT 25 76 hHeld ?_
            refine rT 26 77 hHeld ?_
            refine rU 27 78 hHeld ?_
            refine rU 28 79 hHeld ?_
            refine rU 29 80 hHeld ?_
            refine rU 30 81 hHeld ?_
            refine rU 31 82 hHeld ?_
            refine rT 32 83 hHeld ?_
            refine rT 33 84 hHeld ?_
            refine rU 34 85 hHeld ?_
            refine rU 35 86 hHeld ?_
            refine rU 36 87 hHeld ?_
            refine rU 37 88 hHeld ?_
            refine rU 38 89 hHeld ?_
            refine rU 39 90 hHeld ?_
            refine rT 40 91 hHeld ?_
            refine wpAnyH_done (by kernel_rfl) ?_ _
            have L0' := Aside.mk hHeld.1
            have HB' := Aside.mk hHeld.2.2.1
            clear hHeld L0 l0 HB
            have l0 := L0'.out.cells
            go_wp2
            go_ret
            exact ⟨ret_b (by rw [HE.out, HS.out]; rfl), HB'.out⟩
          · by_cases h2 : m.u < b.nx
            · have h2d : decide (b.nx ≤ m.u) = false := decide_eq_false (by omega)
              rcases h5 : has m.g b.go with _ | _
              · by_cases h4 : mailAt b.ml m.g = (0 : Int)
                · have HX := Aside.mk h4
                  have HK : Aside (mailIn b (0 : Nat) (prevU b.ml 0) m = true) := ⟨by first | (simp [mailIn, HP.out, h1, h2, HX.out, h5]; done) | (simp [mailIn, HP.out, h1, h2, HX.out, h5]; intro hh; omega)⟩
                  clear HP
                  rw [HK.out] at HS
                  clear h4
                  go_wp2
                  refine wp_region_held_drew (S := (fun w' => Loc w' w.heap.size #[.int .i64 b.g, .string b.nm, .int .i64 b.t, .int .i64 b.b, .int .i64 b.nx, .slice (some ad) b.ml.length c, gv] 32 ∧ Loc w' wr.heap.size #[.int .i64 m.g, .int .i64 m.u, .slice A2 m.fl.length c2, .string m.tx] 58 ∧ Below w.heap.size w w' ∧ Below wr.heap.size wr w')) (by kernel_rfl) (by exact ⟨(L0.out.alloc _).drew, (Loc.new wr _ _).drew, below_drew (below_alloc HB.out _), below_drew (below_alloc (Below.refl _ _) _)⟩) (fun hHeld => ?_)
                  refine rT 0 51 hHeld ?_
                  refine wpAnyH_ready (rs := [1]) (by kernel_rfl) (by simp) ?_
                  refine AllReadyH.cons rfl (fun K hK => ?_) AllReadyH.nil
                  go_simp
                  refine (specMailOk_calls _ _ m (rdRegs_mov hHeld.2.2.2 HF.out) HTX.out).mono ?_; rintro e w1 ⟨he, hb⟩; rw [h1] at he; subst he
                  refine hK.out _ _ (by ((repeat' apply And.intro) <;> (first | exact Loc.below hHeld.1 hb | exact cell_b hb hHeld.1 | exact below_step hHeld.1 hb | exact Loc.below hHeld hb | exact cell_b hb hHeld | exact below_step hHeld hb | exact Loc.below hHeld.2.1 hb | exact cell_b hb hHeld.2.1 | exact below_step hHeld.2.1 hb | exact Loc.below hHeld.2 hb | exact cell_b hb hHeld.2 | exact below_step hHeld.2 hb | exact Loc.below hHeld.2.2.1 hb | exact cell_b hb hHeld.2.2.1 | exact below_step hHeld.2.2.1 hb | exact Loc.below hHeld.2.2 hb | exact cell_b hb hHeld.2.2 | exact below_step hHeld.2.2 hb | exact Loc.below hHeld.2.2.2.1 hb | exact cell_b hb hHeld.2.2.2.1 | exact below_step hHeld.2.2.2.1 hb | exact Loc.below hHeld.2.2.2 hb | exact cell_b hb hHeld.2.2.2 | exact below_step hHeld.2.2.2 hb | exact Loc.below hHeld.2.2.2.2.1 hb | exact cell_b hb hHeld.2.2.2.2.1 | exact below_step hHeld.2.2.2.2.1 hb | exact Loc.below hHeld.2.2.2.2 hb | exact cell_b hb hHeld.2.2.2.2 | exact below_step hHeld.2.2.2.2 hb | exact Loc.below hHeld.2.2.2.2.2.1 hb | exact cell_b hb hHeld.2.2.2.2.2.1 | exact below_step hHeld.2.2.2.2.2.1 hb | exact Loc.below hHeld.2.2.2.2.2 hb | exact cell_b hb hHeld.2.2.2.2.2 | exact below_step hHeld.2.2.2.2.2 hb))) (fun hHeld => ?_)
                  clear hK K
                  (try simp only [Act.put, List.setIfInBounds_toArray, List.set_cons_zero, List.set_cons_succ])
                  refine rT 2 53 hHeld ?_
                  refine rT 3 54 hHeld ?_
                  refine rT 4 55 hHeld ?_
                  refine rT 5 56 hHeld ?_
                  refine rT 6 57 hHeld ?_
                  refine rT 7 58 hHeld ?_
                  refine rT 8 59 hHeld ?_
                  refine rT 9 60 hHeld ?_
                  refine rT 10 61 hHeld ?_
                  refine rT 11 62 hHeld ?_
                  refine rT 12 63 hHeld ?_
                  refine rT 13 64 hHeld ?_
                  refine rU 14 65 hHeld ?_
                  refine rU 15 66 hHeld ?_
                  refine rU 16 67 hHeld ?_
                  refine rU 17 68 hHeld ?_
                  refine rU 18 69 hHeld ?_
                  refine rU 19 70 hHeld ?_
                  refine rU 20 71 hHeld ?_
                  refine rU 21 72 hHeld ?_
                  refine rU 22 73 hHeld ?_
                  refine rU 23 74 hHeld ?_
                  refine rT 24 75 hHeld ?_
                  refine rT 25 76 hHeld ?_
                  refine rT 26 77 hHeld ?_
                  refine rT 27 78 hHeld ?_
                  refine rT 28 79 hHeld ?_
                  refine rT 29 80 hHeld ?_
                  refine rT 30 81 hHeld ?_
                  refine wpAnyH_ready (rs := [31]) (by kernel_rfl) (by simp) ?_
                  refine AllReadyH.cons rfl (fun K hK => ?_) AllReadyH.nil
                  go_simp
                  refine (l06In_calls _ _ b.go m.g (rdInts_mov hHeld.2.2.1 HG.out)).mono ?_; rintro e w1 ⟨he, hb⟩; rw [h5] at he; subst he
                  refine hK.out _ _ (by ((repeat' apply And.intro) <;> (first | exact Loc.below hHeld.1 hb | exact cell_b hb hHeld.1 | exact below_step hHeld.1 hb | exact Loc.below hHeld hb | exact cell_b hb hHeld | exact below_step hHeld hb | exact Loc.below hHeld.2.1 hb | exact cell_b hb hHeld.2.1 | exact below_step hHeld.2.1 hb | exact Loc.below hHeld.2 hb | exact cell_b hb hHeld.2 | exact below_step hHeld.2 hb | exact Loc.below hHeld.2.2.1 hb | exact cell_b hb hHeld.2.2.1 | exact below_step hHeld.2.2.1 hb | exact Loc.below hHeld.2.2 hb | exact cell_b hb hHeld.2.2 | exact below_step hHeld.2.2 hb | exact Loc.below hHeld.2.2.2.1 hb | exact cell_b hb hHeld.2.2.2.1 | exact below_step hHeld.2.2.2.1 hb | exact Loc.below hHeld.2.2.2 hb | exact cell_b hb hHeld.2.2.2 | exact below_step hHeld.2.2.2 hb | exact Loc.below hHeld.2.2.2.2.1 hb | exact cell_b hb hHeld.2.2.2.2.1 | exact below_step hHeld.2.2.2.2.1 hb | exact Loc.below hHeld.2.2.2.2 hb | exact cell_b hb hHeld.2.2.2.2 | exact below_step hHeld.2.2.2.2 hb | exact Loc.below hHeld.2.2.2.2.2.1 hb | exact cell_b hb hHeld.2.2.2.2.2.1 | exact below_step hHeld.2.2.2.2.2.1 hb | exact Loc.below hHeld.2.2.2.2.2 hb | exact cell_b hb hHeld.2.2.2.2.2 | exact below_step hHeld.2.2.2.2.2 hb))) (fun hHeld => ?_)
                  clear hK K
                  (try simp only [Act.put, List.setIfInBounds_toArray, List.set_cons_zero, List.set_cons_succ])
                  refine rT 32 83 hHeld ?_
                  refine rT 33 84 hHeld ?_
                  refine rT 34 85 hHeld ?_
                  refine rT 35 86 hHeld ?_
                  refine rT 36 87 hHeld ?_
                  refine rT 38 89 hHeld ?_
                  refine wpAnyH_ready (rs := [37]) (by kernel_rfl) (by simp) ?_
                  refine AllReadyH.cons rfl (fun K hK => ?_) AllReadyH.nil
                  go_simp
                  refine (specMailAt_calls _ _ gv b m.g (rdMails_mov hHeld.2.2.1 HR.out) ogv).mono ?_; rintro e w1 ⟨he, hb⟩; (try rw [HX.out] at he); subst he
                  refine hK.out _ _ (by ((repeat' apply And.intro) <;> (first | exact Loc.below hHeld.1 hb | exact cell_b hb hHeld.1 | exact below_step hHeld.1 hb | exact Loc.below hHeld hb | exact cell_b hb hHeld | exact below_step hHeld hb | exact Loc.below hHeld.2.1 hb | exact cell_b hb hHeld.2.1 | exact below_step hHeld.2.1 hb | exact Loc.below hHeld.2 hb | exact cell_b hb hHeld.2 | exact below_step hHeld.2 hb | exact Loc.below hHeld.2.2.1 hb | exact cell_b hb hHeld.2.2.1 | exact below_step hHeld.2.2.1 hb | exact Loc.below hHeld.2.2 hb | exact cell_b hb hHeld.2.2 | exact below_step hHeld.2.2 hb | exact Loc.below hHeld.2.2.2.1 hb | exact cell_b hb hHeld.2.2.2.1 | exact below_step hHeld.2.2.2.1 hb | exact Loc.below hHeld.2.2.2 hb | exact cell_b hb hHeld.2.2.2 | exact below_step hHeld.2.2.2 hb | exact Loc.below hHeld.2.2.2.2.1 hb | exact cell_b hb hHeld.2.2.2.2.1 | exact below_step hHeld.2.2.2.2.1 hb | exact Loc.below hHeld.2.2.2.2 hb | exact cell_b hb hHeld.2.2.2.2 | exact below_step hHeld.2.2.2.2 hb | exact Loc.below hHeld.2.2.2.2.2.1 hb | exact cell_b hb hHeld.2.2.2.2.2.1 | exact below_step hHeld.2.2.2.2.2.1 hb | exact Loc.below hHeld.2.2.2.2.2 hb | exact cell_b hb hHeld.2.2.2.2.2 | exact below_step hHeld.2.2.2.2.2 hb))) (fun hHeld => ?_)
                  clear hK K
                  (try simp only [Act.put, List.setIfInBounds_toArray, List.set_cons_zero, List.set_cons_succ])
                  refine rT 39 90 hHeld ?_
                  refine rT 40 91 hHeld ?_
                  refine wpAnyH_done (by kernel_rfl) ?_ _
                  have L0' := Aside.mk hHeld.1
                  have HB' := Aside.mk hHeld.2.2.1
                  clear hHeld L0 l0 HB
                  have l0 := L0'.out.cells
                  go_wp2
                  go_roundw
                  case rel => exact ⟨0 + 1, by omega, by go_num, ⟨by rw [HE.out, HS.out, Bool.true_and]⟩, L0', HB'⟩
                  case measure => simp [intOf]; omega
                · have h4b := beq_eq_false_iff_ne.2 h4
                  have h4c := bne_iff_ne.2 h4
                  have HK : Aside (mailIn b (0 : Nat) (prevU b.ml 0) m = false) := ⟨by first | (simp [mailIn, HP.out, h1, h2, h4, h5]; done) | (simp [mailIn, HP.out, h1, h2, h4, h5]; intro hh; omega)⟩
                  clear HP
                  rw [HK.out] at HS
                  go_wp2
                  refine wp_region_held_drew (S := (fun w' => Loc w' w.heap.size #[.int .i64 b.g, .string b.nm, .int .i64 b.t, .int .i64 b.b, .int .i64 b.nx, .slice (some ad) b.ml.length c, gv] 32 ∧ Loc w' wr.heap.size #[.int .i64 m.g, .int .i64 m.u, .slice A2 m.fl.length c2, .string m.tx] 58 ∧ Below w.heap.size w w' ∧ Below wr.heap.size wr w')) (by kernel_rfl) (by exact ⟨(L0.out.alloc _).drew, (Loc.new wr _ _).drew, below_drew (below_alloc HB.out _), below_drew (below_alloc (Below.refl _ _) _)⟩) (fun hHeld => ?_)
                  refine rT 0 51 hHeld ?_
                  refine wpAnyH_ready (rs := [1]) (by kernel_rfl) (by simp) ?_
                  refine AllReadyH.cons rfl (fun K hK => ?_) AllReadyH.nil
                  go_simp
                  refine (specMailOk_calls _ _ m (rdRegs_mov hHeld.2.2.2 HF.out) HTX.out).mono ?_; rintro e w1 ⟨he, hb⟩; rw [h1] at he; subst he
                  refine hK.out _ _ (by ((repeat' apply And.intro) <;> (first | exact Loc.below hHeld.1 hb | exact cell_b hb hHeld.1 | exact below_step hHeld.1 hb | exact Loc.below hHeld hb | exact cell_b hb hHeld | exact below_step hHeld hb | exact Loc.below hHeld.2.1 hb | exact cell_b hb hHeld.2.1 | exact below_step hHeld.2.1 hb | exact Loc.below hHeld.2 hb | exact cell_b hb hHeld.2 | exact below_step hHeld.2 hb | exact Loc.below hHeld.2.2.1 hb | exact cell_b hb hHeld.2.2.1 | exact below_step hHeld.2.2.1 hb | exact Loc.below hHeld.2.2 hb | exact cell_b hb hHeld.2.2 | exact below_step hHeld.2.2 hb | exact Loc.below hHeld.2.2.2.1 hb | exact cell_b hb hHeld.2.2.2.1 | exact below_step hHeld.2.2.2.1 hb | exact Loc.below hHeld.2.2.2 hb | exact cell_b hb hHeld.2.2.2 | exact below_step hHeld.2.2.2 hb | exact Loc.below hHeld.2.2.2.2.1 hb | exact cell_b hb hHeld.2.2.2.2.1 | exact below_step hHeld.2.2.2.2.1 hb | exact Loc.below hHeld.2.2.2.2 hb | exact cell_b hb hHeld.2.2.2.2 | exact below_step hHeld.2.2.2.2 hb | exact Loc.below hHeld.2.2.2.2.2.1 hb | exact cell_b hb hHeld.2.2.2.2.2.1 | exact below_step hHeld.2.2.2.2.2.1 hb | exact Loc.below hHeld.2.2.2.2.2 hb | exact cell_b hb hHeld.2.2.2.2.2 | exact below_step hHeld.2.2.2.2.2 hb))) (fun hHeld => ?_)
                  clear hK K
                  (try simp only [Act.put, List.setIfInBounds_toArray, List.set_cons_zero, List.set_cons_succ])
                  refine rT 2 53 hHeld ?_
                  refine rT 3 54 hHeld ?_
                  refine rT 4 55 hHeld ?_
                  refine rT 5 56 hHeld ?_
                  refine rT 6 57 hHeld ?_
                  refine rT 7 58 hHeld ?_
                  refine rT 8 59 hHeld ?_
                  refine rT 9 60 hHeld ?_
                  refine rT 10 61 hHeld ?_
                  refine rT 11 62 hHeld ?_
                  refine rT 12 63 hHeld ?_
                  refine rT 13 64 hHeld ?_
                  refine rU 14 65 hHeld ?_
                  refine rU 15 66 hHeld ?_
                  refine rU 16 67 hHeld ?_
                  refine rU 17 68 hHeld ?_
                  refine rU 18 69 hHeld ?_
                  refine rU 19 70 hHeld ?_
                  refine rU 20 71 hHeld ?_
                  refine rU 21 72 hHeld ?_
                  refine rU 22 73 hHeld ?_
                  refine rU 23 74 hHeld ?_
                  refine rT 24 75 hHeld ?_
                  refine rT 25 76 hHeld ?_
                  refine rT 26 77 hHeld ?_
                  refine rT 27 78 hHeld ?_
                  refine rT 28 79 hHeld ?_
                  refine rT 29 80 hHeld ?_
                  refine rT 30 81 hHeld ?_
                  refine wpAnyH_ready (rs := [31]) (by kernel_rfl) (by simp) ?_
                  refine AllReadyH.cons rfl (fun K hK => ?_) AllReadyH.nil
                  go_simp
                  refine (l06In_calls _ _ b.go m.g (rdInts_mov hHeld.2.2.1 HG.out)).mono ?_; rintro e w1 ⟨he, hb⟩; rw [h5] at he; subst he
                  refine hK.out _ _ (by ((repeat' apply And.intro) <;> (first | exact Loc.below hHeld.1 hb | exact cell_b hb hHeld.1 | exact below_step hHeld.1 hb | exact Loc.below hHeld hb | exact cell_b hb hHeld | exact below_step hHeld hb | exact Loc.below hHeld.2.1 hb | exact cell_b hb hHeld.2.1 | exact below_step hHeld.2.1 hb | exact Loc.below hHeld.2 hb | exact cell_b hb hHeld.2 | exact below_step hHeld.2 hb | exact Loc.below hHeld.2.2.1 hb | exact cell_b hb hHeld.2.2.1 | exact below_step hHeld.2.2.1 hb | exact Loc.below hHeld.2.2 hb | exact cell_b hb hHeld.2.2 | exact below_step hHeld.2.2 hb | exact Loc.below hHeld.2.2.2.1 hb | exact cell_b hb hHeld.2.2.2.1 | exact below_step hHeld.2.2.2.1 hb | exact Loc.below hHeld.2.2.2 hb | exact cell_b hb hHeld.2.2.2 | exact below_step hHeld.2.2.2 hb | exact Loc.below hHeld.2.2.2.2.1 hb | exact cell_b hb hHeld.2.2.2.2.1 | exact below_step hHeld.2.2.2.2.1 hb | exact Loc.below hHeld.2.2.2.2 hb | exact cell_b hb hHeld.2.2.2.2 | exact below_step hHeld.2.2.2.2 hb | exact Loc.below hHeld.2.2.2.2.2.1 hb | exact cell_b hb hHeld.2.2.2.2.2.1 | exact below_step hHeld.2.2.2.2.2.1 hb | exact Loc.below hHeld.2.2.2.2.2 hb | exact cell_b hb hHeld.2.2.2.2.2 | exact below_step hHeld.2.2.2.2.2 hb))) (fun hHeld => ?_)
                  clear hK K
                  (try simp only [Act.put, List.setIfInBounds_toArray, List.set_cons_zero, List.set_cons_succ])
                  refine rT 32 83 hHeld ?_
                  refine rT 33 84 hHeld ?_
                  refine rT 34 85 hHeld ?_
                  refine rT 35 86 hHeld ?_
                  refine rT 36 87 hHeld ?_
                  refine rT 38 89 hHeld ?_
                  refine wpAnyH_ready (rs := [37]) (by kernel_rfl) (by simp) ?_
                  refine AllReadyH.cons rfl (fun K hK => ?_) AllReadyH.nil
                  go_simp
                  refine (specMailAt_calls _ _ gv b m.g (rdMails_mov hHeld.2.2.1 HR.out) ogv).mono ?_; rintro e w1 ⟨he, hb⟩; (try rw [HX.out] at he); subst he
                  refine hK.out _ _ (by ((repeat' apply And.intro) <;> (first | exact Loc.below hHeld.1 hb | exact cell_b hb hHeld.1 | exact below_step hHeld.1 hb | exact Loc.below hHeld hb | exact cell_b hb hHeld | exact below_step hHeld hb | exact Loc.below hHeld.2.1 hb | exact cell_b hb hHeld.2.1 | exact below_step hHeld.2.1 hb | exact Loc.below hHeld.2 hb | exact cell_b hb hHeld.2 | exact below_step hHeld.2 hb | exact Loc.below hHeld.2.2.1 hb | exact cell_b hb hHeld.2.2.1 | exact below_step hHeld.2.2.1 hb | exact Loc.below hHeld.2.2 hb | exact cell_b hb hHeld.2.2 | exact below_step hHeld.2.2 hb | exact Loc.below hHeld.2.2.2.1 hb | exact cell_b hb hHeld.2.2.2.1 | exact below_step hHeld.2.2.2.1 hb | exact Loc.below hHeld.2.2.2 hb | exact cell_b hb hHeld.2.2.2 | exact below_step hHeld.2.2.2 hb | exact Loc.below hHeld.2.2.2.2.1 hb | exact cell_b hb hHeld.2.2.2.2.1 | exact below_step hHeld.2.2.2.2.1 hb | exact Loc.below hHeld.2.2.2.2 hb | exact cell_b hb hHeld.2.2.2.2 | exact below_step hHeld.2.2.2.2 hb | exact Loc.below hHeld.2.2.2.2.2.1 hb | exact cell_b hb hHeld.2.2.2.2.2.1 | exact below_step hHeld.2.2.2.2.2.1 hb | exact Loc.below hHeld.2.2.2.2.2 hb | exact cell_b hb hHeld.2.2.2.2.2 | exact below_step hHeld.2.2.2.2.2 hb))) (fun hHeld => ?_)
                  clear hK K
                  (try simp only [Act.put, List.setIfInBounds_toArray, List.set_cons_zero, List.set_cons_succ])
                  refine rT 39 90 hHeld ?_
                  refine rT 40 91 hHeld ?_
                  refine wpAnyH_done (by kernel_rfl) ?_ _
                  have L0' := Aside.mk hHeld.1
                  have HB' := Aside.mk hHeld.2.2.1
                  clear hHeld L0 l0 HB
                  have l0 := L0'.out.cells
                  go_wp2
                  go_ret
                  exact ⟨ret_b (by rw [HE.out, HS.out]; rfl), HB'.out⟩
              · skip
                have HK : Aside (mailIn b (0 : Nat) (prevU b.ml 0) m = false) := ⟨by first | (simp [mailIn, HP.out, h1, h2, h5]; done) | (simp [mailIn, HP.out, h1, h2, h5]; intro hh; omega)⟩
                clear HP
                rw [HK.out] at HS
                go_wp2
                refine wp_region_held_drew (S := (fun w' => Loc w' w.heap.size #[.int .i64 b.g, .string b.nm, .int .i64 b.t, .int .i64 b.b, .int .i64 b.nx, .slice (some ad) b.ml.length c, gv] 32 ∧ Loc w' wr.heap.size #[.int .i64 m.g, .int .i64 m.u, .slice A2 m.fl.length c2, .string m.tx] 58 ∧ Below w.heap.size w w' ∧ Below wr.heap.size wr w')) (by kernel_rfl) (by exact ⟨(L0.out.alloc _).drew, (Loc.new wr _ _).drew, below_drew (below_alloc HB.out _), below_drew (below_alloc (Below.refl _ _) _)⟩) (fun hHeld => ?_)
                refine rT 0 51 hHeld ?_
                refine wpAnyH_ready (rs := [1]) (by kernel_rfl) (by simp) ?_
                refine AllReadyH.cons rfl (fun K hK => ?_) AllReadyH.nil
                go_simp
                refine (specMailOk_calls _ _ m (rdRegs_mov hHeld.2.2.2 HF.out) HTX.out).mono ?_; rintro e w1 ⟨he, hb⟩; rw [h1] at he; subst he
                refine hK.out _ _ (by ((repeat' apply And.intro) <;> (first | exact Loc.below hHeld.1 hb | exact cell_b hb hHeld.1 | exact below_step hHeld.1 hb | exact Loc.below hHeld hb | exact cell_b hb hHeld | exact below_step hHeld hb | exact Loc.below hHeld.2.1 hb | exact cell_b hb hHeld.2.1 | exact below_step hHeld.2.1 hb | exact Loc.below hHeld.2 hb | exact cell_b hb hHeld.2 | exact below_step hHeld.2 hb | exact Loc.below hHeld.2.2.1 hb | exact cell_b hb hHeld.2.2.1 | exact below_step hHeld.2.2.1 hb | exact Loc.below hHeld.2.2 hb | exact cell_b hb hHeld.2.2 | exact below_step hHeld.2.2 hb | exact Loc.below hHeld.2.2.2.1 hb | exact cell_b hb hHeld.2.2.2.1 | exact below_step hHeld.2.2.2.1 hb | exact Loc.below hHeld.2.2.2 hb | exact cell_b hb hHeld.2.2.2 | exact below_step hHeld.2.2.2 hb | exact Loc.below hHeld.2.2.2.2.1 hb | exact cell_b hb hHeld.2.2.2.2.1 | exact below_step hHeld.2.2.2.2.1 hb | exact Loc.below hHeld.2.2.2.2 hb | exact cell_b hb hHeld.2.2.2.2 | exact below_step hHeld.2.2.2.2 hb | exact Loc.below hHeld.2.2.2.2.2.1 hb | exact cell_b hb hHeld.2.2.2.2.2.1 | exact below_step hHeld.2.2.2.2.2.1 hb | exact Loc.below hHeld.2.2.2.2.2 hb | exact cell_b hb hHeld.2.2.2.2.2 | exact below_step hHeld.2.2.2.2.2 hb))) (fun hHeld => ?_)
                clear hK K
                (try simp only [Act.put, List.setIfInBounds_toArray, List.set_cons_zero, List.set_cons_succ])
                refine rT 2 53 hHeld ?_
                refine rT 3 54 hHeld ?_
                refine rT 4 55 hHeld ?_
                refine rT 5 56 hHeld ?_
                refine rT 6 57 hHeld ?_
                refine rT 7 58 hHeld ?_
                refine rT 8 59 hHeld ?_
                refine rT 9 60 hHeld ?_
                refine rT 10 61 hHeld ?_
                refine rT 11 62 hHeld ?_
                refine rT 12 63 hHeld ?_
                refine rT 13 64 hHeld ?_
                refine rU 14 65 hHeld ?_
                refine rU 15 66 hHeld ?_
                refine rU 16 67 hHeld ?_
                refine rU 17 68 hHeld ?_
                refine rU 18 69 hHeld ?_
                refine rU 19 70 hHeld ?_
                refine rU 20 71 hHeld ?_
                refine rU 21 72 hHeld ?_
                refine rU 22 73 hHeld ?_
                refine rU 23 74 hHeld ?_
                refine rT 24 75 hHeld ?_
                refine rT 25 76 hHeld ?_
                refine rT 26 77 hHeld ?_
                refine rT 27 78 hHeld ?_
                refine rT 28 79 hHeld ?_
                refine rT 29 80 hHeld ?_
                refine rT 30 81 hHeld ?_
                refine wpAnyH_ready (rs := [31]) (by kernel_rfl) (by simp) ?_
                refine AllReadyH.cons rfl (fun K hK => ?_) AllReadyH.nil
                go_simp
                refine (l06In_calls _ _ b.go m.g (rdInts_mov hHeld.2.2.1 HG.out)).mono ?_; rintro e w1 ⟨he, hb⟩; rw [h5] at he; subst he
                refine hK.out _ _ (by ((repeat' apply And.intro) <;> (first | exact Loc.below hHeld.1 hb | exact cell_b hb hHeld.1 | exact below_step hHeld.1 hb | exact Loc.below hHeld hb | exact cell_b hb hHeld | exact below_step hHeld hb | exact Loc.below hHeld.2.1 hb | exact cell_b hb hHeld.2.1 | exact below_step hHeld.2.1 hb | exact Loc.below hHeld.2 hb | exact cell_b hb hHeld.2 | exact below_step hHeld.2 hb | exact Loc.below hHeld.2.2.1 hb | exact cell_b hb hHeld.2.2.1 | exact below_step hHeld.2.2.1 hb | exact Loc.below hHeld.2.2 hb | exact cell_b hb hHeld.2.2 | exact below_step hHeld.2.2 hb | exact Loc.below hHeld.2.2.2.1 hb | exact cell_b hb hHeld.2.2.2.1 | exact below_step hHeld.2.2.2.1 hb | exact Loc.below hHeld.2.2.2 hb | exact cell_b hb hHeld.2.2.2 | exact below_step hHeld.2.2.2 hb | exact Loc.below hHeld.2.2.2.2.1 hb | exact cell_b hb hHeld.2.2.2.2.1 | exact below_step hHeld.2.2.2.2.1 hb | exact Loc.below hHeld.2.2.2.2 hb | exact cell_b hb hHeld.2.2.2.2 | exact below_step hHeld.2.2.2.2 hb | exact Loc.below hHeld.2.2.2.2.2.1 hb | exact cell_b hb hHeld.2.2.2.2.2.1 | exact below_step hHeld.2.2.2.2.2.1 hb | exact Loc.below hHeld.2.2.2.2.2 hb | exact cell_b hb hHeld.2.2.2.2.2 | exact below_step hHeld.2.2.2.2.2 hb))) (fun hHeld => ?_)
                clear hK K
                (try simp only [Act.put, List.setIfInBounds_toArray, List.set_cons_zero, List.set_cons_succ])
                refine rT 32 83 hHeld ?_
                refine rT 33 84 hHeld ?_
                refine rU 34 85 hHeld ?_
                refine rU 35 86 hHeld ?_
                refine rU 36 87 hHeld ?_
                refine rU 37 88 hHeld ?_
                refine rU 38 89 hHeld ?_
                refine rU 39 90 hHeld ?_
                refine rT 40 91 hHeld ?_
                refine wpAnyH_done (by kernel_rfl) ?_ _
                have L0' := Aside.mk hHeld.1
                have HB' := Aside.mk hHeld.2.2.1
                clear hHeld L0 l0 HB
                have l0 := L0'.out.cells
                go_wp2
                go_ret
                exact ⟨ret_b (by rw [HE.out, HS.out]; rfl), HB'.out⟩
            · have h2d : decide (b.nx ≤ m.u) = true := decide_eq_true (by omega)
              have HK : Aside (mailIn b (0 : Nat) (prevU b.ml 0) m = false) := ⟨by first | (simp [mailIn, HP.out, h1, h2]; done) | (simp [mailIn, HP.out, h1, h2]; intro hh; omega)⟩
              clear HP
              rw [HK.out] at HS
              go_wp2
              refine wp_region_held_drew (S := (fun w' => Loc w' w.heap.size #[.int .i64 b.g, .string b.nm, .int .i64 b.t, .int .i64 b.b, .int .i64 b.nx, .slice (some ad) b.ml.length c, gv] 32 ∧ Loc w' wr.heap.size #[.int .i64 m.g, .int .i64 m.u, .slice A2 m.fl.length c2, .string m.tx] 58 ∧ Below w.heap.size w w' ∧ Below wr.heap.size wr w')) (by kernel_rfl) (by exact ⟨(L0.out.alloc _).drew, (Loc.new wr _ _).drew, below_drew (below_alloc HB.out _), below_drew (below_alloc (Below.refl _ _) _)⟩) (fun hHeld => ?_)
              refine rT 0 51 hHeld ?_
              refine wpAnyH_ready (rs := [1]) (by kernel_rfl) (by simp) ?_
              refine AllReadyH.cons rfl (fun K hK => ?_) AllReadyH.nil
              go_simp
              refine (specMailOk_calls _ _ m (rdRegs_mov hHeld.2.2.2 HF.out) HTX.out).mono ?_; rintro e w1 ⟨he, hb⟩; rw [h1] at he; subst he
              refine hK.out _ _ (by ((repeat' apply And.intro) <;> (first | exact Loc.below hHeld.1 hb | exact cell_b hb hHeld.1 | exact below_step hHeld.1 hb | exact Loc.below hHeld hb | exact cell_b hb hHeld | exact below_step hHeld hb | exact Loc.below hHeld.2.1 hb | exact cell_b hb hHeld.2.1 | exact below_step hHeld.2.1 hb | exact Loc.below hHeld.2 hb | exact cell_b hb hHeld.2 | exact below_step hHeld.2 hb | exact Loc.below hHeld.2.2.1 hb | exact cell_b hb hHeld.2.2.1 | exact below_step hHeld.2.2.1 hb | exact Loc.below hHeld.2.2 hb | exact cell_b hb hHeld.2.2 | exact below_step hHeld.2.2 hb | exact Loc.below hHeld.2.2.2.1 hb | exact cell_b hb hHeld.2.2.2.1 | exact below_step hHeld.2.2.2.1 hb | exact Loc.below hHeld.2.2.2 hb | exact cell_b hb hHeld.2.2.2 | exact below_step hHeld.2.2.2 hb | exact Loc.below hHeld.2.2.2.2.1 hb | exact cell_b hb hHeld.2.2.2.2.1 | exact below_step hHeld.2.2.2.2.1 hb | exact Loc.below hHeld.2.2.2.2 hb | exact cell_b hb hHeld.2.2.2.2 | exact below_step hHeld.2.2.2.2 hb | exact Loc.below hHeld.2.2.2.2.2.1 hb | exact cell_b hb hHeld.2.2.2.2.2.1 | exact below_step hHeld.2.2.2.2.2.1 hb | exact Loc.below hHeld.2.2.2.2.2 hb | exact cell_b hb hHeld.2.2.2.2.2 | exact below_step hHeld.2.2.2.2.2 hb))) (fun hHeld => ?_)
              clear hK K
              (try simp only [Act.put, List.setIfInBounds_toArray, List.set_cons_zero, List.set_cons_succ])
              refine rT 2 53 hHeld ?_
              refine rT 3 54 hHeld ?_
              refine rT 4 55 hHeld ?_
              refine rT 5 56 hHeld ?_
              refine rT 6 57 hHeld ?_
              refine rT 7 58 hHeld ?_
              refine rT 8 59 hHeld ?_
              refine rT 9 60 hHeld ?_
              refine rT 10 61 hHeld ?_
              refine rU 11 62 hHeld ?_
              refine rU 12 63 hHeld ?_
              refine rU 13 64 hHeld ?_
              refine rU 14 65 hHeld ?_
              refine rU 15 66 hHeld ?_
              refine rU 16 67 hHeld ?_
              refine rU 17 68 hHeld ?_
              refine rU 18 69 hHeld ?_
              refine rU 19 70 hHeld ?_
              refine rU 20 71 hHeld ?_
              refine rU 21 72 hHeld ?_
              refine rU 22 73 hHeld ?_
              refine rU 23 74 hHeld ?_
              refine rU 24 75 hHeld ?_
              refine rT 25 76 hHeld ?_
              refine rT 26 77 hHeld ?_
              refine rU 27 78 hHeld ?_
              refine rU 28 79 hHeld ?_
              refine rU 29 80 hHeld ?_
              refine rU 30 81 hHeld ?_
              refine rU 31 82 hHeld ?_
              refine rT 32 83 hHeld ?_
              refine rT 33 84 hHeld ?_
              refine rU 34 85 hHeld ?_
              refine rU 35 86 hHeld ?_
              refine rU 36 87 hHeld ?_
              refine rU 37 88 hHeld ?_
              refine rU 38 89 hHeld ?_
              refine rU 39 90 hHeld ?_
              refine rT 40 91 hHeld ?_
              refine wpAnyH_done (by kernel_rfl) ?_ _
              have L0' := Aside.mk hHeld.1
              have HB' := Aside.mk hHeld.2.2.1
              clear hHeld L0 l0 HB
              have l0 := L0'.out.cells
              go_wp2
              go_ret
              exact ⟨ret_b (by rw [HE.out, HS.out]; rfl), HB'.out⟩
        · have hj : i - 1 < b.ml.length := by omega
          obtain ⟨ad2, fv2, hA2, x8, x9, _, _, _⟩ := rdMails_at (rdMails_mov HB.out HR.out) (i - 1) hj
          injection hA2 with hA2
          subst hA2
          have HP : Aside (above (prevU b.ml i) b.ml[i].u = decide (b.ml[i - 1].u < b.ml[i].u)) := ⟨by rw [prevU_pos hz hj]; rfl⟩
          generalize b.ml[i] = m at x0 x1 x2 x3 HS hf HTX HP
          obtain ⟨A2, c2, rfl, _, _⟩ := rd_len hf
          have HF := Aside.mk hf
          clear hf
          generalize b.ml[i - 1].u = u0 at x9 HP
          clear x8
          have q2 : (0 : Int) < (i : Int) := by omega
          have q3 : (0 : Int) ≤ (i : Int) - 1 := by omega
          have q4 : (i : Int) - 1 < (b.ml.length : Int) := by omega
          have q5 : (1 : Int) ≤ (i : Int) := by omega
          have hw : IntKind.i64.wrap ((i : Int) - 1) = (i : Int) - 1 := IntWalk.i64_in _ (by omega)
          rcases h1 : mailOk m with _ | _
          · skip
            have HK : Aside (mailIn b i (prevU b.ml i) m = false) := ⟨by first | (simp [mailIn, HP.out, h1]; done) | (simp [mailIn, HP.out, h1]; intro hh; omega)⟩
            clear HP
            rw [HK.out] at HS
            go_wp2
            refine wp_region_held_drew (S := (fun w' => Loc w' w.heap.size #[.int .i64 b.g, .string b.nm, .int .i64 b.t, .int .i64 b.b, .int .i64 b.nx, .slice (some ad) b.ml.length c, gv] 32 ∧ Loc w' wr.heap.size #[.int .i64 m.g, .int .i64 m.u, .slice A2 m.fl.length c2, .string m.tx] 58 ∧ Below w.heap.size w w' ∧ Below wr.heap.size wr w' ∧ w'.cell? ⟨(ad.add ((i - 1) * 4)).block, (ad.add ((i - 1) * 4)).off + 1, none⟩ = some (.int .i64 u0))) (by kernel_rfl) (by exact ⟨(L0.out.alloc _).drew, (Loc.new wr _ _).drew, below_drew (below_alloc HB.out _), below_drew (below_alloc (Below.refl _ _) _), cell_b (w := wr) (below_drew (below_alloc (Below.refl _ _) _)) x9⟩) (fun hHeld => ?_)
            refine rT 0 51 hHeld ?_
            refine wpAnyH_ready (rs := [1]) (by kernel_rfl) (by simp) ?_
            refine AllReadyH.cons rfl (fun K hK => ?_) AllReadyH.nil
            go_simp
            refine (specMailOk_calls _ _ m (rdRegs_mov hHeld.2.2.2.1 HF.out) HTX.out).mono ?_; rintro e w1 ⟨he, hb⟩; rw [h1] at he; subst he
            refine hK.out _ _ (by ((repeat' apply And.intro) <;> (first | exact Loc.below hHeld.1 hb | exact cell_b hb hHeld.1 | exact below_step hHeld.1 hb | exact Loc.below hHeld hb | exact cell_b hb hHeld | exact below_step hHeld hb | exact Loc.below hHeld.2.1 hb | exact cell_b hb hHeld.2.1 | exact below_step hHeld.2.1 hb | exact Loc.below hHeld.2 hb | exact cell_b hb hHeld.2 | exact below_step hHeld.2 hb | exact Loc.below hHeld.2.2.1 hb | exact cell_b hb hHeld.2.2.1 | exact below_step hHeld.2.2.1 hb | exact Loc.below hHeld.2.2 hb | exact cell_b hb hHeld.2.2 | exact below_step hHeld.2.2 hb | exact Loc.below hHeld.2.2.2.1 hb | exact cell_b hb hHeld.2.2.2.1 | exact below_step hHeld.2.2.2.1 hb | exact Loc.below hHeld.2.2.2 hb | exact cell_b hb hHeld.2.2.2 | exact below_step hHeld.2.2.2 hb | exact Loc.below hHeld.2.2.2.2.1 hb | exact cell_b hb hHeld.2.2.2.2.1 | exact below_step hHeld.2.2.2.2.1 hb | exact Loc.below hHeld.2.2.2.2 hb | exact cell_b hb hHeld.2.2.2.2 | exact below_step hHeld.2.2.2.2 hb | exact Loc.below hHeld.2.2.2.2.2.1 hb | exact cell_b hb hHeld.2.2.2.2.2.1 | exact below_step hHeld.2.2.2.2.2.1 hb | exact Loc.below hHeld.2.2.2.2.2 hb | exact cell_b hb hHeld.2.2.2.2.2 | exact below_step hHeld.2.2.2.2.2 hb))) (fun hHeld => ?_)
            clear hK K
            (try simp only [Act.put, List.setIfInBounds_toArray, List.set_cons_zero, List.set_cons_succ])
            refine rT 2 53 hHeld ?_
            refine rT 3 54 hHeld ?_
            refine rU 4 55 hHeld ?_
            refine rU 5 56 hHeld ?_
            refine rU 6 57 hHeld ?_
            refine rU 7 58 hHeld ?_
            refine rU 8 59 hHeld ?_
            refine rT 9 60 hHeld ?_
            refine rT 10 61 hHeld ?_
            refine rU 11 62 hHeld ?_
            refine rU 12 63 hHeld ?_
            refine rU 13 64 hHeld ?_
            refine rU 14 65 hHeld ?_
            refine rU 15 66 hHeld ?_
            refine rU 16 67 hHeld ?_
            refine rU 17 68 hHeld ?_
            refine rU 18 69 hHeld ?_
            refine rU 19 70 hHeld ?_
            refine rU 20 71 hHeld ?_
            refine rU 21 72 hHeld ?_
            refine rU 22 73 hHeld ?_
            refine rU 23 74 hHeld ?_
            refine rU 24 75 hHeld ?_
            refine rT 25 76 hHeld ?_
            refine rT 26 77 hHeld ?_
            refine rU 27 78 hHeld ?_
            refine rU 28 79 hHeld ?_
            refine rU 29 80 hHeld ?_
            refine rU 30 81 hHeld ?_
            refine rU 31 82 hHeld ?_
            refine rT 32 83 hHeld ?_
            refine rT 33 84 hHeld ?_
            refine rU 34 85 hHeld ?_
            refine rU 35 86 hHeld ?_
            refine rU 36 87 hHeld ?_
            refine rU 37 88 hHeld ?_
            refine rU 38 89 hHeld ?_
            refine rU 39 90 hHeld ?_
            refine rT 40 91 hHeld ?_
            refine wpAnyH_done (by kernel_rfl) ?_ _
            have L0' := Aside.mk hHeld.1
            have HB' := Aside.mk hHeld.2.2.1
            clear hHeld L0 l0 HB hw
            have l0 := L0'.out.cells
            go_wp2
            go_ret
            exact ⟨ret_b (by rw [HE.out, HS.out]; rfl), HB'.out⟩
          · by_cases h2 : m.u < b.nx
            · have h2d : decide (b.nx ≤ m.u) = false := decide_eq_false (by omega)
              by_cases h3 : u0 < m.u
              · have h3d : decide (m.u ≤ u0) = false := decide_eq_false (by omega)
                rcases h5 : has m.g b.go with _ | _
                · by_cases h4 : mailAt b.ml m.g = (i : Int)
                  · have HX := Aside.mk h4
                    have HK : Aside (mailIn b i (prevU b.ml i) m = true) := ⟨by first | (simp [mailIn, HP.out, h1, h2, HX.out, h5, h3]; done) | (simp [mailIn, HP.out, h1, h2, HX.out, h5, h3]; intro hh; omega)⟩
                    clear HP
                    rw [HK.out] at HS
                    clear h4
                    go_wp2
                    refine wp_region_held_drew (S := (fun w' => Loc w' w.heap.size #[.int .i64 b.g, .string b.nm, .int .i64 b.t, .int .i64 b.b, .int .i64 b.nx, .slice (some ad) b.ml.length c, gv] 32 ∧ Loc w' wr.heap.size #[.int .i64 m.g, .int .i64 m.u, .slice A2 m.fl.length c2, .string m.tx] 58 ∧ Below w.heap.size w w' ∧ Below wr.heap.size wr w' ∧ w'.cell? ⟨(ad.add ((i - 1) * 4)).block, (ad.add ((i - 1) * 4)).off + 1, none⟩ = some (.int .i64 u0))) (by kernel_rfl) (by exact ⟨(L0.out.alloc _).drew, (Loc.new wr _ _).drew, below_drew (below_alloc HB.out _), below_drew (below_alloc (Below.refl _ _) _), cell_b (w := wr) (below_drew (below_alloc (Below.refl _ _) _)) x9⟩) (fun hHeld => ?_)
                    refine rT 0 51 hHeld ?_
                    refine wpAnyH_ready (rs := [1]) (by kernel_rfl) (by simp) ?_
                    refine AllReadyH.cons rfl (fun K hK => ?_) AllReadyH.nil
                    go_simp
                    refine (specMailOk_calls _ _ m (rdRegs_mov hHeld.2.2.2.1 HF.out) HTX.out).mono ?_; rintro e w1 ⟨he, hb⟩; rw [h1] at he; subst he
                    refine hK.out _ _ (by ((repeat' apply And.intro) <;> (first | exact Loc.below hHeld.1 hb | exact cell_b hb hHeld.1 | exact below_step hHeld.1 hb | exact Loc.below hHeld hb | exact cell_b hb hHeld | exact below_step hHeld hb | exact Loc.below hHeld.2.1 hb | exact cell_b hb hHeld.2.1 | exact below_step hHeld.2.1 hb | exact Loc.below hHeld.2 hb | exact cell_b hb hHeld.2 | exact below_step hHeld.2 hb | exact Loc.below hHeld.2.2.1 hb | exact cell_b hb hHeld.2.2.1 | exact below_step hHeld.2.2.1 hb | exact Loc.below hHeld.2.2 hb | exact cell_b hb hHeld.2.2 | exact below_step hHeld.2.2 hb | exact Loc.below hHeld.2.2.2.1 hb | exact cell_b hb hHeld.2.2.2.1 | exact below_step hHeld.2.2.2.1 hb | exact Loc.below hHeld.2.2.2 hb | exact cell_b hb hHeld.2.2.2 | exact below_step hHeld.2.2.2 hb | exact Loc.below hHeld.2.2.2.2.1 hb | exact cell_b hb hHeld.2.2.2.2.1 | exact below_step hHeld.2.2.2.2.1 hb | exact Loc.below hHeld.2.2.2.2 hb | exact cell_b hb hHeld.2.2.2.2 | exact below_step hHeld.2.2.2.2 hb | exact Loc.below hHeld.2.2.2.2.2.1 hb | exact cell_b hb hHeld.2.2.2.2.2.1 | exact below_step hHeld.2.2.2.2.2.1 hb | exact Loc.below hHeld.2.2.2.2.2 hb | exact cell_b hb hHeld.2.2.2.2.2 | exact below_step hHeld.2.2.2.2.2 hb))) (fun hHeld => ?_)
                    clear hK K
                    (try simp only [Act.put, List.setIfInBounds_toArray, List.set_cons_zero, List.set_cons_succ])
                    refine rT 2 53 hHeld ?_
                    refine rT 3 54 hHeld ?_
                    refine rT 4 55 hHeld ?_
                    refine rT 5 56 hHeld ?_
                    refine rT 6 57 hHeld ?_
                    refine rT 7 58 hHeld ?_
                    refine rT 8 59 hHeld ?_
                    refine rT 9 60 hHeld ?_
                    refine rT 10 61 hHeld ?_
                    refine rT 11 62 hHeld ?_
                    refine rT 12 63 hHeld ?_
                    refine rT 13 64 hHeld ?_
                    refine rT 14 65 hHeld ?_
                    refine rT 15 66 hHeld ?_
                    refine rT 16 67 hHeld ?_
                    refine rT 17 68 hHeld ?_
                    refine rT 18 69 hHeld ?_
                    refine rT 19 70 hHeld ?_
                    refine rT 20 71 hHeld ?_
                    refine rT 21 72 hHeld ?_
                    refine rT 22 73 hHeld ?_
                    refine rT 23 74 hHeld ?_
                    refine rT 24 75 hHeld ?_
                    refine rT 25 76 hHeld ?_
                    refine rT 26 77 hHeld ?_
                    refine rT 27 78 hHeld ?_
                    refine rT 28 79 hHeld ?_
                    refine rT 29 80 hHeld ?_
                    refine rT 30 81 hHeld ?_
                    refine wpAnyH_ready (rs := [31]) (by kernel_rfl) (by simp) ?_
                    refine AllReadyH.cons rfl (fun K hK => ?_) AllReadyH.nil
                    go_simp
                    refine (l06In_calls _ _ b.go m.g (rdInts_mov hHeld.2.2.1 HG.out)).mono ?_; rintro e w1 ⟨he, hb⟩; rw [h5] at he; subst he
                    refine hK.out _ _ (by ((repeat' apply And.intro) <;> (first | exact Loc.below hHeld.1 hb | exact cell_b hb hHeld.1 | exact below_step hHeld.1 hb | exact Loc.below hHeld hb | exact cell_b hb hHeld | exact below_step hHeld hb | exact Loc.below hHeld.2.1 hb | exact cell_b hb hHeld.2.1 | exact below_step hHeld.2.1 hb | exact Loc.below hHeld.2 hb | exact cell_b hb hHeld.2 | exact below_step hHeld.2 hb | exact Loc.below hHeld.2.2.1 hb | exact cell_b hb hHeld.2.2.1 | exact below_step hHeld.2.2.1 hb | exact Loc.below hHeld.2.2 hb | exact cell_b hb hHeld.2.2 | exact below_step hHeld.2.2 hb | exact Loc.below hHeld.2.2.2.1 hb | exact cell_b hb hHeld.2.2.2.1 | exact below_step hHeld.2.2.2.1 hb | exact Loc.below hHeld.2.2.2 hb | exact cell_b hb hHeld.2.2.2 | exact below_step hHeld.2.2.2 hb | exact Loc.below hHeld.2.2.2.2.1 hb | exact cell_b hb hHeld.2.2.2.2.1 | exact below_step hHeld.2.2.2.2.1 hb | exact Loc.below hHeld.2.2.2.2 hb | exact cell_b hb hHeld.2.2.2.2 | exact below_step hHeld.2.2.2.2 hb | exact Loc.below hHeld.2.2.2.2.2.1 hb | exact cell_b hb hHeld.2.2.2.2.2.1 | exact below_step hHeld.2.2.2.2.2.1 hb | exact Loc.below hHeld.2.2.2.2.2 hb | exact cell_b hb hHeld.2.2.2.2.2 | exact below_step hHeld.2.2.2.2.2 hb))) (fun hHeld => ?_)
                    clear hK K
                    (try simp only [Act.put, List.setIfInBounds_toArray, List.set_cons_zero, List.set_cons_succ])
                    refine rT 32 83 hHeld ?_
                    refine rT 33 84 hHeld ?_
                    refine rT 34 85 hHeld ?_
                    refine rT 35 86 hHeld ?_
                    refine rT 36 87 hHeld ?_
                    refine rT 38 89 hHeld ?_
                    refine wpAnyH_ready (rs := [37]) (by kernel_rfl) (by simp) ?_
                    refine AllReadyH.cons rfl (fun K hK => ?_) AllReadyH.nil
                    go_simp
                    refine (specMailAt_calls _ _ gv b m.g (rdMails_mov hHeld.2.2.1 HR.out) ogv).mono ?_; rintro e w1 ⟨he, hb⟩; (try rw [HX.out] at he); subst he
                    refine hK.out _ _ (by ((repeat' apply And.intro) <;> (first | exact Loc.below hHeld.1 hb | exact cell_b hb hHeld.1 | exact below_step hHeld.1 hb | exact Loc.below hHeld hb | exact cell_b hb hHeld | exact below_step hHeld hb | exact Loc.below hHeld.2.1 hb | exact cell_b hb hHeld.2.1 | exact below_step hHeld.2.1 hb | exact Loc.below hHeld.2 hb | exact cell_b hb hHeld.2 | exact below_step hHeld.2 hb | exact Loc.below hHeld.2.2.1 hb | exact cell_b hb hHeld.2.2.1 | exact below_step hHeld.2.2.1 hb | exact Loc.below hHeld.2.2 hb | exact cell_b hb hHeld.2.2 | exact below_step hHeld.2.2 hb | exact Loc.below hHeld.2.2.2.1 hb | exact cell_b hb hHeld.2.2.2.1 | exact below_step hHeld.2.2.2.1 hb | exact Loc.below hHeld.2.2.2 hb | exact cell_b hb hHeld.2.2.2 | exact below_step hHeld.2.2.2 hb | exact Loc.below hHeld.2.2.2.2.1 hb | exact cell_b hb hHeld.2.2.2.2.1 | exact below_step hHeld.2.2.2.2.1 hb | exact Loc.below hHeld.2.2.2.2 hb | exact cell_b hb hHeld.2.2.2.2 | exact below_step hHeld.2.2.2.2 hb | exact Loc.below hHeld.2.2.2.2.2.1 hb | exact cell_b hb hHeld.2.2.2.2.2.1 | exact below_step hHeld.2.2.2.2.2.1 hb | exact Loc.below hHeld.2.2.2.2.2 hb | exact cell_b hb hHeld.2.2.2.2.2 | exact below_step hHeld.2.2.2.2.2 hb))) (fun hHeld => ?_)
                    clear hK K
                    (try simp only [Act.put, List.setIfInBounds_toArray, List.set_cons_zero, List.set_cons_succ])
                    refine rT 39 90 hHeld ?_
                    refine rT 40 91 hHeld ?_
                    refine wpAnyH_done (by kernel_rfl) ?_ _
                    have L0' := Aside.mk hHeld.1
                    have HB' := Aside.mk hHeld.2.2.1
                    clear hHeld L0 l0 HB hw
                    have l0 := L0'.out.cells
                    go_wp2
                    go_roundw
                    case rel => exact ⟨i + 1, by omega, by go_num, ⟨by rw [HE.out, HS.out, Bool.true_and]⟩, L0', HB'⟩
                    case measure => simp [intOf]; omega
                  · have h4b := beq_eq_false_iff_ne.2 h4
                    have h4c := bne_iff_ne.2 h4
                    have HK : Aside (mailIn b i (prevU b.ml i) m = false) := ⟨by first | (simp [mailIn, HP.out, h1, h2, h4, h5, h3]; done) | (simp [mailIn, HP.out, h1, h2, h4, h5, h3]; intro hh; omega)⟩
                    clear HP
                    rw [HK.out] at HS
                    go_wp2
                    refine wp_region_held_drew (S := (fun w' => Loc w' w.heap.size #[.int .i64 b.g, .string b.nm, .int .i64 b.t, .int .i64 b.b, .int .i64 b.nx, .slice (some ad) b.ml.length c, gv] 32 ∧ Loc w' wr.heap.size #[.int .i64 m.g, .int .i64 m.u, .slice A2 m.fl.length c2, .string m.tx] 58 ∧ Below w.heap.size w w' ∧ Below wr.heap.size wr w' ∧ w'.cell? ⟨(ad.add ((i - 1) * 4)).block, (ad.add ((i - 1) * 4)).off + 1, none⟩ = some (.int .i64 u0))) (by kernel_rfl) (by exact ⟨(L0.out.alloc _).drew, (Loc.new wr _ _).drew, below_drew (below_alloc HB.out _), below_drew (below_alloc (Below.refl _ _) _), cell_b (w := wr) (below_drew (below_alloc (Below.refl _ _) _)) x9⟩) (fun hHeld => ?_)
                    refine rT 0 51 hHeld ?_
                    refine wpAnyH_ready (rs := [1]) (by kernel_rfl) (by simp) ?_
                    refine AllReadyH.cons rfl (fun K hK => ?_) AllReadyH.nil
                    go_simp
                    refine (specMailOk_calls _ _ m (rdRegs_mov hHeld.2.2.2.1 HF.out) HTX.out).mono ?_; rintro e w1 ⟨he, hb⟩; rw [h1] at he; subst he
                    refine hK.out _ _ (by ((repeat' apply And.intro) <;> (first | exact Loc.below hHeld.1 hb | exact cell_b hb hHeld.1 | exact below_step hHeld.1 hb | exact Loc.below hHeld hb | exact cell_b hb hHeld | exact below_step hHeld hb | exact Loc.below hHeld.2.1 hb | exact cell_b hb hHeld.2.1 | exact below_step hHeld.2.1 hb | exact Loc.below hHeld.2 hb | exact cell_b hb hHeld.2 | exact below_step hHeld.2 hb | exact Loc.below hHeld.2.2.1 hb | exact cell_b hb hHeld.2.2.1 | exact below_step hHeld.2.2.1 hb | exact Loc.below hHeld.2.2 hb | exact cell_b hb hHeld.2.2 | exact below_step hHeld.2.2 hb | exact Loc.below hHeld.2.2.2.1 hb | exact cell_b hb hHeld.2.2.2.1 | exact below_step hHeld.2.2.2.1 hb | exact Loc.below hHeld.2.2.2 hb | exact cell_b hb hHeld.2.2.2 | exact below_step hHeld.2.2.2 hb | exact Loc.below hHeld.2.2.2.2.1 hb | exact cell_b hb hHeld.2.2.2.2.1 | exact below_step hHeld.2.2.2.2.1 hb | exact Loc.below hHeld.2.2.2.2 hb | exact cell_b hb hHeld.2.2.2.2 | exact below_step hHeld.2.2.2.2 hb | exact Loc.below hHeld.2.2.2.2.2.1 hb | exact cell_b hb hHeld.2.2.2.2.2.1 | exact below_step hHeld.2.2.2.2.2.1 hb | exact Loc.below hHeld.2.2.2.2.2 hb | exact cell_b hb hHeld.2.2.2.2.2 | exact below_step hHeld.2.2.2.2.2 hb))) (fun hHeld => ?_)
                    clear hK K
                    (try simp only [Act.put, List.setIfInBounds_toArray, List.set_cons_zero, List.set_cons_succ])
                    refine rT 2 53 hHeld ?_
                    refine rT 3 54 hHeld ?_
                    refine rT 4 55 hHeld ?_
                    refine rT 5 56 hHeld ?_
                    refine rT 6 57 hHeld ?_
                    refine rT 7 58 hHeld ?_
                    refine rT 8 59 hHeld ?_
                    refine rT 9 60 hHeld ?_
                    refine rT 10 61 hHeld ?_
                    refine rT 11 62 hHeld ?_
                    refine rT 12 63 hHeld ?_
                    refine rT 13 64 hHeld ?_
                    refine rT 14 65 hHeld ?_
                    refine rT 15 66 hHeld ?_
                    refine rT 16 67 hHeld ?_
                    refine rT 17 68 hHeld ?_
                    refine rT 18 69 hHeld ?_
                    refine rT 19 70 hHeld ?_
                    refine rT 20 71 hHeld ?_
                    refine rT 21 72 hHeld ?_
                    refine rT 22 73 hHeld ?_
                    refine rT 23 74 hHeld ?_
                    refine rT 24 75 hHeld ?_
                    refine rT 25 76 hHeld ?_
                    refine rT 26 77 hHeld ?_
                    refine rT 27 78 hHeld ?_
                    refine rT 28 79 hHeld ?_
                    refine rT 29 80 hHeld ?_
                    refine rT 30 81 hHeld ?_
                    refine wpAnyH_ready (rs := [31]) (by kernel_rfl) (by simp) ?_
                    refine AllReadyH.cons rfl (fun K hK => ?_) AllReadyH.nil
                    go_simp
                    refine (l06In_calls _ _ b.go m.g (rdInts_mov hHeld.2.2.1 HG.out)).mono ?_; rintro e w1 ⟨he, hb⟩; rw [h5] at he; subst he
                    refine hK.out _ _ (by ((repeat' apply And.intro) <;> (first | exact Loc.below hHeld.1 hb | exact cell_b hb hHeld.1 | exact below_step hHeld.1 hb | exact Loc.below hHeld hb | exact cell_b hb hHeld | exact below_step hHeld hb | exact Loc.below hHeld.2.1 hb | exact cell_b hb hHeld.2.1 | exact below_step hHeld.2.1 hb | exact Loc.below hHeld.2 hb | exact cell_b hb hHeld.2 | exact below_step hHeld.2 hb | exact Loc.below hHeld.2.2.1 hb | exact cell_b hb hHeld.2.2.1 | exact below_step hHeld.2.2.1 hb | exact Loc.below hHeld.2.2 hb | exact cell_b hb hHeld.2.2 | exact below_step hHeld.2.2 hb | exact Loc.below hHeld.2.2.2.1 hb | exact cell_b hb hHeld.2.2.2.1 | exact below_step hHeld.2.2.2.1 hb | exact Loc.below hHeld.2.2.2 hb | exact cell_b hb hHeld.2.2.2 | exact below_step hHeld.2.2.2 hb | exact Loc.below hHeld.2.2.2.2.1 hb | exact cell_b hb hHeld.2.2.2.2.1 | exact below_step hHeld.2.2.2.2.1 hb | exact Loc.below hHeld.2.2.2.2 hb | exact cell_b hb hHeld.2.2.2.2 | exact below_step hHeld.2.2.2.2 hb | exact Loc.below hHeld.2.2.2.2.2.1 hb | exact cell_b hb hHeld.2.2.2.2.2.1 | exact below_step hHeld.2.2.2.2.2.1 hb | exact Loc.below hHeld.2.2.2.2.2 hb | exact cell_b hb hHeld.2.2.2.2.2 | exact below_step hHeld.2.2.2.2.2 hb))) (fun hHeld => ?_)
                    clear hK K
                    (try simp only [Act.put, List.setIfInBounds_toArray, List.set_cons_zero, List.set_cons_succ])
                    refine rT 32 83 hHeld ?_
                    refine rT 33 84 hHeld ?_
                    refine rT 34 85 hHeld ?_
                    refine rT 35 86 hHeld ?_
                    refine rT 36 87 hHeld ?_
                    refine rT 38 89 hHeld ?_
                    refine wpAnyH_ready (rs := [37]) (by kernel_rfl) (by simp) ?_
                    refine AllReadyH.cons rfl (fun K hK => ?_) AllReadyH.nil
                    go_simp
                    refine (specMailAt_calls _ _ gv b m.g (rdMails_mov hHeld.2.2.1 HR.out) ogv).mono ?_; rintro e w1 ⟨he, hb⟩; (try rw [HX.out] at he); subst he
                    refine hK.out _ _ (by ((repeat' apply And.intro) <;> (first | exact Loc.below hHeld.1 hb | exact cell_b hb hHeld.1 | exact below_step hHeld.1 hb | exact Loc.below hHeld hb | exact cell_b hb hHeld | exact below_step hHeld hb | exact Loc.below hHeld.2.1 hb | exact cell_b hb hHeld.2.1 | exact below_step hHeld.2.1 hb | exact Loc.below hHeld.2 hb | exact cell_b hb hHeld.2 | exact below_step hHeld.2 hb | exact Loc.below hHeld.2.2.1 hb | exact cell_b hb hHeld.2.2.1 | exact below_step hHeld.2.2.1 hb | exact Loc.below hHeld.2.2 hb | exact cell_b hb hHeld.2.2 | exact below_step hHeld.2.2 hb | exact Loc.below hHeld.2.2.2.1 hb | exact cell_b hb hHeld.2.2.2.1 | exact below_step hHeld.2.2.2.1 hb | exact Loc.below hHeld.2.2.2 hb | exact cell_b hb hHeld.2.2.2 | exact below_step hHeld.2.2.2 hb | exact Loc.below hHeld.2.2.2.2.1 hb | exact cell_b hb hHeld.2.2.2.2.1 | exact below_step hHeld.2.2.2.2.1 hb | exact Loc.below hHeld.2.2.2.2 hb | exact cell_b hb hHeld.2.2.2.2 | exact below_step hHeld.2.2.2.2 hb | exact Loc.below hHeld.2.2.2.2.2.1 hb | exact cell_b hb hHeld.2.2.2.2.2.1 | exact below_step hHeld.2.2.2.2.2.1 hb | exact Loc.below hHeld.2.2.2.2.2 hb | exact cell_b hb hHeld.2.2.2.2.2 | exact below_step hHeld.2.2.2.2.2 hb))) (fun hHeld => ?_)
                    clear hK K
                    (try simp only [Act.put, List.setIfInBounds_toArray, List.set_cons_zero, List.set_cons_succ])
                    refine rT 39 90 hHeld ?_
                    refine rT 40 91 hHeld ?_
                    refine wpAnyH_done (by kernel_rfl) ?_ _
                    have L0' := Aside.mk hHeld.1
                    have HB' := Aside.mk hHeld.2.2.1
                    clear hHeld L0 l0 HB hw
                    have l0 := L0'.out.cells
                    go_wp2
                    go_ret
                    exact ⟨ret_b (by rw [HE.out, HS.out]; rfl), HB'.out⟩
                · skip
                  have HK : Aside (mailIn b i (prevU b.ml i) m = false) := ⟨by first | (simp [mailIn, HP.out, h1, h2, h5, h3]; done) | (simp [mailIn, HP.out, h1, h2, h5, h3]; intro hh; omega)⟩
                  clear HP
                  rw [HK.out] at HS
                  go_wp2
                  refine wp_region_held_drew (S := (fun w' => Loc w' w.heap.size #[.int .i64 b.g, .string b.nm, .int .i64 b.t, .int .i64 b.b, .int .i64 b.nx, .slice (some ad) b.ml.length c, gv] 32 ∧ Loc w' wr.heap.size #[.int .i64 m.g, .int .i64 m.u, .slice A2 m.fl.length c2, .string m.tx] 58 ∧ Below w.heap.size w w' ∧ Below wr.heap.size wr w' ∧ w'.cell? ⟨(ad.add ((i - 1) * 4)).block, (ad.add ((i - 1) * 4)).off + 1, none⟩ = some (.int .i64 u0))) (by kernel_rfl) (by exact ⟨(L0.out.alloc _).drew, (Loc.new wr _ _).drew, below_drew (below_alloc HB.out _), below_drew (below_alloc (Below.refl _ _) _), cell_b (w := wr) (below_drew (below_alloc (Below.refl _ _) _)) x9⟩) (fun hHeld => ?_)
                  refine rT 0 51 hHeld ?_
                  refine wpAnyH_ready (rs := [1]) (by kernel_rfl) (by simp) ?_
                  refine AllReadyH.cons rfl (fun K hK => ?_) AllReadyH.nil
                  go_simp
                  refine (specMailOk_calls _ _ m (rdRegs_mov hHeld.2.2.2.1 HF.out) HTX.out).mono ?_; rintro e w1 ⟨he, hb⟩; rw [h1] at he; subst he
                  refine hK.out _ _ (by ((repeat' apply And.intro) <;> (first | exact Loc.below hHeld.1 hb | exact cell_b hb hHeld.1 | exact below_step hHeld.1 hb | exact Loc.below hHeld hb | exact cell_b hb hHeld | exact below_step hHeld hb | exact Loc.below hHeld.2.1 hb | exact cell_b hb hHeld.2.1 | exact below_step hHeld.2.1 hb | exact Loc.below hHeld.2 hb | exact cell_b hb hHeld.2 | exact below_step hHeld.2 hb | exact Loc.below hHeld.2.2.1 hb | exact cell_b hb hHeld.2.2.1 | exact below_step hHeld.2.2.1 hb | exact Loc.below hHeld.2.2 hb | exact cell_b hb hHeld.2.2 | exact below_step hHeld.2.2 hb | exact Loc.below hHeld.2.2.2.1 hb | exact cell_b hb hHeld.2.2.2.1 | exact below_step hHeld.2.2.2.1 hb | exact Loc.below hHeld.2.2.2 hb | exact cell_b hb hHeld.2.2.2 | exact below_step hHeld.2.2.2 hb | exact Loc.below hHeld.2.2.2.2.1 hb | exact cell_b hb hHeld.2.2.2.2.1 | exact below_step hHeld.2.2.2.2.1 hb | exact Loc.below hHeld.2.2.2.2 hb | exact cell_b hb hHeld.2.2.2.2 | exact below_step hHeld.2.2.2.2 hb | exact Loc.below hHeld.2.2.2.2.2.1 hb | exact cell_b hb hHeld.2.2.2.2.2.1 | exact below_step hHeld.2.2.2.2.2.1 hb | exact Loc.below hHeld.2.2.2.2.2 hb | exact cell_b hb hHeld.2.2.2.2.2 | exact below_step hHeld.2.2.2.2.2 hb))) (fun hHeld => ?_)
                  clear hK K
                  (try simp only [Act.put, List.setIfInBounds_toArray, List.set_cons_zero, List.set_cons_succ])
                  refine rT 2 53 hHeld ?_
                  refine rT 3 54 hHeld ?_
                  refine rT 4 55 hHeld ?_
                  refine rT 5 56 hHeld ?_
                  refine rT 6 57 hHeld ?_
                  refine rT 7 58 hHeld ?_
                  refine rT 8 59 hHeld ?_
                  refine rT 9 60 hHeld ?_
                  refine rT 10 61 hHeld ?_
                  refine rT 11 62 hHeld ?_
                  refine rT 12 63 hHeld ?_
                  refine rT 13 64 hHeld ?_
                  refine rT 14 65 hHeld ?_
                  refine rT 15 66 hHeld ?_
                  refine rT 16 67 hHeld ?_
                  refine rT 17 68 hHeld ?_
                  refine rT 18 69 hHeld ?_
                  refine rT 19 70 hHeld ?_
                  refine rT 20 71 hHeld ?_
                  refine rT 21 72 hHeld ?_
                  refine rT 22 73 hHeld ?_
                  refine rT 23 74 hHeld ?_
                  refine rT 24 75 hHeld ?_
                  refine rT 25 76 hHeld ?_
                  refine rT 26 77 hHeld ?_
                  refine rT 27 78 hHeld ?_
                  refine rT 28 79 hHeld ?_
                  refine rT 29 80 hHeld ?_
                  refine rT 30 81 hHeld ?_
                  refine wpAnyH_ready (rs := [31]) (by kernel_rfl) (by simp) ?_
                  refine AllReadyH.cons rfl (fun K hK => ?_) AllReadyH.nil
                  go_simp
                  refine (l06In_calls _ _ b.go m.g (rdInts_mov hHeld.2.2.1 HG.out)).mono ?_; rintro e w1 ⟨he, hb⟩; rw [h5] at he; subst he
                  refine hK.out _ _ (by ((repeat' apply And.intro) <;> (first | exact Loc.below hHeld.1 hb | exact cell_b hb hHeld.1 | exact below_step hHeld.1 hb | exact Loc.below hHeld hb | exact cell_b hb hHeld | exact below_step hHeld hb | exact Loc.below hHeld.2.1 hb | exact cell_b hb hHeld.2.1 | exact below_step hHeld.2.1 hb | exact Loc.below hHeld.2 hb | exact cell_b hb hHeld.2 | exact below_step hHeld.2 hb | exact Loc.below hHeld.2.2.1 hb | exact cell_b hb hHeld.2.2.1 | exact below_step hHeld.2.2.1 hb | exact Loc.below hHeld.2.2 hb | exact cell_b hb hHeld.2.2 | exact below_step hHeld.2.2 hb | exact Loc.below hHeld.2.2.2.1 hb | exact cell_b hb hHeld.2.2.2.1 | exact below_step hHeld.2.2.2.1 hb | exact Loc.below hHeld.2.2.2 hb | exact cell_b hb hHeld.2.2.2 | exact below_step hHeld.2.2.2 hb | exact Loc.below hHeld.2.2.2.2.1 hb | exact cell_b hb hHeld.2.2.2.2.1 | exact below_step hHeld.2.2.2.2.1 hb | exact Loc.below hHeld.2.2.2.2 hb | exact cell_b hb hHeld.2.2.2.2 | exact below_step hHeld.2.2.2.2 hb | exact Loc.below hHeld.2.2.2.2.2.1 hb | exact cell_b hb hHeld.2.2.2.2.2.1 | exact below_step hHeld.2.2.2.2.2.1 hb | exact Loc.below hHeld.2.2.2.2.2 hb | exact cell_b hb hHeld.2.2.2.2.2 | exact below_step hHeld.2.2.2.2.2 hb))) (fun hHeld => ?_)
                  clear hK K
                  (try simp only [Act.put, List.setIfInBounds_toArray, List.set_cons_zero, List.set_cons_succ])
                  refine rT 32 83 hHeld ?_
                  refine rT 33 84 hHeld ?_
                  refine rU 34 85 hHeld ?_
                  refine rU 35 86 hHeld ?_
                  refine rU 36 87 hHeld ?_
                  refine rU 37 88 hHeld ?_
                  refine rU 38 89 hHeld ?_
                  refine rU 39 90 hHeld ?_
                  refine rT 40 91 hHeld ?_
                  refine wpAnyH_done (by kernel_rfl) ?_ _
                  have L0' := Aside.mk hHeld.1
                  have HB' := Aside.mk hHeld.2.2.1
                  clear hHeld L0 l0 HB hw
                  have l0 := L0'.out.cells
                  go_wp2
                  go_ret
                  exact ⟨ret_b (by rw [HE.out, HS.out]; rfl), HB'.out⟩
              · have h3d : decide (m.u ≤ u0) = true := decide_eq_true (by omega)
                have HK : Aside (mailIn b i (prevU b.ml i) m = false) := ⟨by first | (simp [mailIn, HP.out, h1, h2, h3]; done) | (simp [mailIn, HP.out, h1, h2, h3]; intro hh; omega)⟩
                clear HP
                rw [HK.out] at HS
                go_wp2
                refine wp_region_held_drew (S := (fun w' => Loc w' w.heap.size #[.int .i64 b.g, .string b.nm, .int .i64 b.t, .int .i64 b.b, .int .i64 b.nx, .slice (some ad) b.ml.length c, gv] 32 ∧ Loc w' wr.heap.size #[.int .i64 m.g, .int .i64 m.u, .slice A2 m.fl.length c2, .string m.tx] 58 ∧ Below w.heap.size w w' ∧ Below wr.heap.size wr w' ∧ w'.cell? ⟨(ad.add ((i - 1) * 4)).block, (ad.add ((i - 1) * 4)).off + 1, none⟩ = some (.int .i64 u0))) (by kernel_rfl) (by exact ⟨(L0.out.alloc _).drew, (Loc.new wr _ _).drew, below_drew (below_alloc HB.out _), below_drew (below_alloc (Below.refl _ _) _), cell_b (w := wr) (below_drew (below_alloc (Below.refl _ _) _)) x9⟩) (fun hHeld => ?_)
                refine rT 0 51 hHeld ?_
                refine wpAnyH_ready (rs := [1]) (by kernel_rfl) (by simp) ?_
                refine AllReadyH.cons rfl (fun K hK => ?_) AllReadyH.nil
                go_simp
                refine (specMailOk_calls _ _ m (rdRegs_mov hHeld.2.2.2.1 HF.out) HTX.out).mono ?_; rintro e w1 ⟨he, hb⟩; rw [h1] at he; subst he
                refine hK.out _ _ (by ((repeat' apply And.intro) <;> (first | exact Loc.below hHeld.1 hb | exact cell_b hb hHeld.1 | exact below_step hHeld.1 hb | exact Loc.below hHeld hb | exact cell_b hb hHeld | exact below_step hHeld hb | exact Loc.below hHeld.2.1 hb | exact cell_b hb hHeld.2.1 | exact below_step hHeld.2.1 hb | exact Loc.below hHeld.2 hb | exact cell_b hb hHeld.2 | exact below_step hHeld.2 hb | exact Loc.below hHeld.2.2.1 hb | exact cell_b hb hHeld.2.2.1 | exact below_step hHeld.2.2.1 hb | exact Loc.below hHeld.2.2 hb | exact cell_b hb hHeld.2.2 | exact below_step hHeld.2.2 hb | exact Loc.below hHeld.2.2.2.1 hb | exact cell_b hb hHeld.2.2.2.1 | exact below_step hHeld.2.2.2.1 hb | exact Loc.below hHeld.2.2.2 hb | exact cell_b hb hHeld.2.2.2 | exact below_step hHeld.2.2.2 hb | exact Loc.below hHeld.2.2.2.2.1 hb | exact cell_b hb hHeld.2.2.2.2.1 | exact below_step hHeld.2.2.2.2.1 hb | exact Loc.below hHeld.2.2.2.2 hb | exact cell_b hb hHeld.2.2.2.2 | exact below_step hHeld.2.2.2.2 hb | exact Loc.below hHeld.2.2.2.2.2.1 hb | exact cell_b hb hHeld.2.2.2.2.2.1 | exact below_step hHeld.2.2.2.2.2.1 hb | exact Loc.below hHeld.2.2.2.2.2 hb | exact cell_b hb hHeld.2.2.2.2.2 | exact below_step hHeld.2.2.2.2.2 hb))) (fun hHeld => ?_)
                clear hK K
                (try simp only [Act.put, List.setIfInBounds_toArray, List.set_cons_zero, List.set_cons_succ])
                refine rT 2 53 hHeld ?_
                refine rT 3 54 hHeld ?_
                refine rT 4 55 hHeld ?_
                refine rT 5 56 hHeld ?_
                refine rT 6 57 hHeld ?_
                refine rT 7 58 hHeld ?_
                refine rT 8 59 hHeld ?_
                refine rT 9 60 hHeld ?_
                refine rT 10 61 hHeld ?_
                refine rT 11 62 hHeld ?_
                refine rT 12 63 hHeld ?_
                refine rT 13 64 hHeld ?_
                refine rT 14 65 hHeld ?_
                refine rT 15 66 hHeld ?_
                refine rT 16 67 hHeld ?_
                refine rT 17 68 hHeld ?_
                refine rT 18 69 hHeld ?_
                refine rT 19 70 hHeld ?_
                refine rT 20 71 hHeld ?_
                refine rT 21 72 hHeld ?_
                refine rT 22 73 hHeld ?_
                refine rT 23 74 hHeld ?_
                refine rT 24 75 hHeld ?_
                refine rT 25 76 hHeld ?_
                refine rT 26 77 hHeld ?_
                refine rU 27 78 hHeld ?_
                refine rU 28 79 hHeld ?_
                refine rU 29 80 hHeld ?_
                refine rU 30 81 hHeld ?_
                refine rU 31 82 hHeld ?_
                refine rT 32 83 hHeld ?_
                refine rT 33 84 hHeld ?_
                refine rU 34 85 hHeld ?_
                refine rU 35 86 hHeld ?_
                refine rU 36 87 hHeld ?_
                refine rU 37 88 hHeld ?_
                refine rU 38 89 hHeld ?_
                refine rU 39 90 hHeld ?_
                refine rT 40 91 hHeld ?_
                refine wpAnyH_done (by kernel_rfl) ?_ _
                have L0' := Aside.mk hHeld.1
                have HB' := Aside.mk hHeld.2.2.1
                clear hHeld L0 l0 HB hw
                have l0 := L0'.out.cells
                go_wp2
                go_ret
                exact ⟨ret_b (by rw [HE.out, HS.out]; rfl), HB'.out⟩
            · have h2d : decide (b.nx ≤ m.u) = true := decide_eq_true (by omega)
              have HK : Aside (mailIn b i (prevU b.ml i) m = false) := ⟨by first | (simp [mailIn, HP.out, h1, h2]; done) | (simp [mailIn, HP.out, h1, h2]; intro hh; omega)⟩
              clear HP
              rw [HK.out] at HS
              go_wp2
              refine wp_region_held_drew (S := (fun w' => Loc w' w.heap.size #[.int .i64 b.g, .string b.nm, .int .i64 b.t, .int .i64 b.b, .int .i64 b.nx, .slice (some ad) b.ml.length c, gv] 32 ∧ Loc w' wr.heap.size #[.int .i64 m.g, .int .i64 m.u, .slice A2 m.fl.length c2, .string m.tx] 58 ∧ Below w.heap.size w w' ∧ Below wr.heap.size wr w' ∧ w'.cell? ⟨(ad.add ((i - 1) * 4)).block, (ad.add ((i - 1) * 4)).off + 1, none⟩ = some (.int .i64 u0))) (by kernel_rfl) (by exact ⟨(L0.out.alloc _).drew, (Loc.new wr _ _).drew, below_drew (below_alloc HB.out _), below_drew (below_alloc (Below.refl _ _) _), cell_b (w := wr) (below_drew (below_alloc (Below.refl _ _) _)) x9⟩) (fun hHeld => ?_)
              refine rT 0 51 hHeld ?_
              refine wpAnyH_ready (rs := [1]) (by kernel_rfl) (by simp) ?_
              refine AllReadyH.cons rfl (fun K hK => ?_) AllReadyH.nil
              go_simp
              refine (specMailOk_calls _ _ m (rdRegs_mov hHeld.2.2.2.1 HF.out) HTX.out).mono ?_; rintro e w1 ⟨he, hb⟩; rw [h1] at he; subst he
              refine hK.out _ _ (by ((repeat' apply And.intro) <;> (first | exact Loc.below hHeld.1 hb | exact cell_b hb hHeld.1 | exact below_step hHeld.1 hb | exact Loc.below hHeld hb | exact cell_b hb hHeld | exact below_step hHeld hb | exact Loc.below hHeld.2.1 hb | exact cell_b hb hHeld.2.1 | exact below_step hHeld.2.1 hb | exact Loc.below hHeld.2 hb | exact cell_b hb hHeld.2 | exact below_step hHeld.2 hb | exact Loc.below hHeld.2.2.1 hb | exact cell_b hb hHeld.2.2.1 | exact below_step hHeld.2.2.1 hb | exact Loc.below hHeld.2.2 hb | exact cell_b hb hHeld.2.2 | exact below_step hHeld.2.2 hb | exact Loc.below hHeld.2.2.2.1 hb | exact cell_b hb hHeld.2.2.2.1 | exact below_step hHeld.2.2.2.1 hb | exact Loc.below hHeld.2.2.2 hb | exact cell_b hb hHeld.2.2.2 | exact below_step hHeld.2.2.2 hb | exact Loc.below hHeld.2.2.2.2.1 hb | exact cell_b hb hHeld.2.2.2.2.1 | exact below_step hHeld.2.2.2.2.1 hb | exact Loc.below hHeld.2.2.2.2 hb | exact cell_b hb hHeld.2.2.2.2 | exact below_step hHeld.2.2.2.2 hb | exact Loc.below hHeld.2.2.2.2.2.1 hb | exact cell_b hb hHeld.2.2.2.2.2.1 | exact below_step hHeld.2.2.2.2.2.1 hb | exact Loc.below hHeld.2.2.2.2.2 hb | exact cell_b hb hHeld.2.2.2.2.2 | exact below_step hHeld.2.2.2.2.2 hb))) (fun hHeld => ?_)
              clear hK K
              (try simp only [Act.put, List.setIfInBounds_toArray, List.set_cons_zero, List.set_cons_succ])
              refine rT 2 53 hHeld ?_
              refine rT 3 54 hHeld ?_
              refine rT 4 55 hHeld ?_
              refine rT 5 56 hHeld ?_
              refine rT 6 57 hHeld ?_
              refine rT 7 58 hHeld ?_
              refine rT 8 59 hHeld ?_
              refine rT 9 60 hHeld ?_
              refine rT 10 61 hHeld ?_
              refine rU 11 62 hHeld ?_
              refine rU 12 63 hHeld ?_
              refine rU 13 64 hHeld ?_
              refine rU 14 65 hHeld ?_
              refine rU 15 66 hHeld ?_
              refine rU 16 67 hHeld ?_
              refine rU 17 68 hHeld ?_
              refine rU 18 69 hHeld ?_
              refine rU 19 70 hHeld ?_
              refine rU 20 71 hHeld ?_
              refine rU 21 72 hHeld ?_
              refine rU 22 73 hHeld ?_
              refine rU 23 74 hHeld ?_
              refine rU 24 75 hHeld ?_
              refine rT 25 76 hHeld ?_
              refine rT 26 77 hHeld ?_
              refine rU 27 78 hHeld ?_
              refine rU 28 79 hHeld ?_
              refine rU 29 80 hHeld ?_
              refine rU 30 81 hHeld ?_
              refine rU 31 82 hHeld ?_
              refine rT 32 83 hHeld ?_
              refine rT 33 84 hHeld ?_
              refine rU 34 85 hHeld ?_
              refine rU 35 86 hHeld ?_
              refine rU 36 87 hHeld ?_
              refine rU 37 88 hHeld ?_
              refine rU 38 89 hHeld ?_
              refine rU 39 90 hHeld ?_
              refine rT 40 91 hHeld ?_
              refine wpAnyH_done (by kernel_rfl) ?_ _
              have L0' := Aside.mk hHeld.1
              have HB' := Aside.mk hHeld.2.2.1
              clear hHeld L0 l0 HB hw
              have l0 := L0'.out.cells
              go_wp2
              go_ret
              exact ⟨ret_b (by rw [HE.out, HS.out]; rfl), HB'.out⟩
      · obtain hz : i = b.ml.length := by omega
        have HZ := Aside.mk hz
        have hge : ¬ ((i : Int) < (b.ml.length : Int)) := by omega
        clear hlt hz
        go_wp2
        go_ret
        exact ⟨ret_b (by rw [HE.out, HZ.out, List.drop_length]; rfl), HB.out⟩
  all_goals
    have HE : Aside (boxOk b = false) := ⟨by simp [boxOk, boxHead, *]⟩
    go_enter Try.func71, Try.ntmps71
    go_wp2_with (fail)
    (have L0 := Aside.mk (Loc.new w #[.int .i64 b.g, .string b.nm, .int .i64 b.t, .int .i64 b.b, .int .i64 b.nx, .slice A b.ml.length c, gv] 32); have HB := Aside.mk (below_alloc (Below.refl _ w) (.cells #[.int .i64 b.g, .string b.nm, .int .i64 b.t, .int .i64 b.b, .int .i64 b.nx, .slice A b.ml.length c, gv] 32)); have l0 := L0.out.cells)
    go_wp2_with (first
      | (go_at_call 132; refine (l01In_calls _ _ _ _).mono ?_; rintro e w' ⟨rfl, hb⟩; replace L0 := Aside.mk (L0.out.below hb); replace HB := Aside.mk (below_step HB.out hb); clear l0 hb; have l0 := L0.out.cells)
      | (go_at_call 148; refine (specNameOk_calls _ _ hn).mono ?_; rintro e w' ⟨rfl, hb⟩; replace L0 := Aside.mk (L0.out.below hb); replace HB := Aside.mk (below_step HB.out hb); clear l0 hb; have l0 := L0.out.cells)
      | (go_at_call 149; refine (specStampOk_calls _ _ _).mono ?_; rintro e w' ⟨rfl, hb⟩; replace L0 := Aside.mk (L0.out.below hb); replace HB := Aside.mk (below_step HB.out hb); clear l0 hb; have l0 := L0.out.cells)
      | (go_at_call 150; refine (l06Sorted_calls _ _ b.go _ (rdInts_mov HB.out HG.out)).mono ?_; rintro e w' ⟨rfl, hb⟩; replace L0 := Aside.mk (L0.out.below hb); replace HB := Aside.mk (below_step HB.out hb); clear l0 hb; have l0 := L0.out.cells))
    go_ret
    exact ⟨ret_b HE.out.symm, HB.out⟩
end Go.Proofs.Ytjfjpabfkembcaa.H
