/- A number put into an ascending list (the reference's l06Put): the walk. -/
import Derived.Test.YtjfjpabfkembcaaHCopy
import Derived.Test.YtjfjpabfkembcaaHSnoc
import Derived.Test.YtjfjpabfkembcaaHPutIn
import Derived.Test.YtjfjpabfkembcaaHCur
namespace Go.Proofs.Ytjfjpabfkembcaa.H
open Go.RowKit
set_option linter.unusedVariables false
set_option linter.unusedSimpArgs false
def lows (x : Int) (l : List Int) : List Int := l.filter (fun y => decide (y < x))
def highs (x : Int) (l : List Int) : List Int := l.filter (fun y => decide (x < y))
theorem take_snoc {l : List Int} {i : Nat} (h : i < l.length) : l.take (i + 1) = l.take i ++ [l[i]] := by
  rw [List.take_add_one, List.getElem?_eq_getElem h]; rfl
theorem lows_yes {x : Int} {l : List Int} {i : Nat} (h : i < l.length) (hx : l[i] < x) : lows x (l.take (i + 1)) = lows x (l.take i) ++ [l[i]] := by
  unfold lows; rw [take_snoc h, List.filter_append]; simp [hx]
theorem lows_no {x : Int} {l : List Int} {i : Nat} (h : i < l.length) (hx : ¬ l[i] < x) : lows x (l.take (i + 1)) = lows x (l.take i) := by
  unfold lows; rw [take_snoc h, List.filter_append]; simp; omega
theorem highs_yes {x : Int} {l : List Int} {i : Nat} (h : i < l.length) (hx : x < l[i]) : highs x (l.take (i + 1)) = highs x (l.take i) ++ [l[i]] := by
  unfold highs; rw [take_snoc h, List.filter_append]; simp [hx]
theorem highs_no {x : Int} {l : List Int} {i : Nat} (h : i < l.length) (hx : ¬ x < l[i]) : highs x (l.take (i + 1)) = highs x (l.take i) := by
  unfold highs; rw [take_snoc h, List.filter_append]; simp; omega
theorem lows_len (x : Int) (l : List Int) : (lows x l).length ≤ l.length := List.length_filter_le _ _
theorem highs_len (x : Int) (l : List Int) : (highs x l).length ≤ l.length := List.length_filter_le _ _
theorem putIn_eq (x : Int) (l : List Int) : putIn x l = lows x l ++ x :: highs x l := rfl
set_option maxHeartbeats 2000000 in
set_option maxRecDepth 100000 in
theorem l06Put_calls (w : World) (v : Value) (l : List Int) (x : Int) (h : rdInts w v l) (hl : l.length ≤ 4000000) : Calls Try.prog 72 #[v, .int .i64 x] w (RetRow owInts (putIn x l) w) := by
  have HR := Aside.mk h
  have HLL := Aside.mk hl
  obtain ⟨A, c, rfl, _, hm⟩ := rd_len h
  clear h hl
  go_enter Try.func72, Try.ntmps72
  go_wp2
  go_loopw [5, 6] (fun v5 v6 wr => ∃ (i g nv cv : Nat) (D : List Nat) (k : List Int), i ≤ l.length ∧ v6 = .int .i64 i ∧ v5 = .slice (some ⟨g, 0, none⟩) nv cv ∧ Aside (k = lows x (l.take i)) ∧ Aside (owInts wr D (.slice (some ⟨g, 0, none⟩) nv cv) k) ∧ Aside (New w wr D) ∧ Aside (Below w.heap.size w wr)) (fun _ v6 _ => l.length - (intOf v6).toNat)
  case atStart => exact ⟨0, _, _, _, [w.heap.size], [], Nat.zero_le _, rfl, rfl, ⟨rfl⟩, ⟨owRow_lit0 w _ rfl⟩, ⟨new_lit0 w w _ _ rfl (Nat.le_refl _)⟩, ⟨below_alloc (Below.refl _ w) _⟩⟩
  case round =>
    obtain ⟨i, g0, nv, cv, D, k, hi, rfl, rfl, HK, HO, HN, HB⟩ := hrel
    have HKL : Aside (k.length ≤ i) := ⟨by have := lows_len x (l.take i); rw [← HK.out, List.length_take] at this; omega⟩
    by_cases hlt : i < l.length
    · obtain ⟨ad, hA, x0⟩ := rdInts_at (rdInts_mov HB.out HR.out) i hlt
      subst hA
      have p0 : (0 : Int) ≤ (i : Int) := by omega
      have p1 : (i : Int) < (l.length : Int) := by omega
      by_cases hy : l[i] < x
      · have HK2 := Aside.mk (lows_yes hlt hy)
        rw [← HK.out] at HK2
        generalize l[i] = y at x0 hy HK2
        go_wp2_with (at_builtin; refine list_snoc el_int ow_int (owRow_alloc ow_int HO.out (.cells #[.int .i64 y] 3)) (w0 := w) (y := y) (Dx := []) (cs := [.int .i64 y]) ⟨rfl, rfl⟩ (by rw [List.append_nil]; exact HN.out.alloc _) (by have := HB.out.size; simp; omega) (.tmp 21) (.tmp 26) (by rfl) (by rfl) (by rfl) wr.heap.size (by rfl) (Loc.new wr _ _) (by have := HKL.out; have := HLL.out; omega) (by have := HKL.out; have := HLL.out; omega) (wr.heap.size + 1) (by simp) (fun g cap w' D' hk1 hk2 hk3 hk => ?_); have HO3 := Aside.mk hk1; have HN3 := Aside.mk hk2; have HB3 := Aside.mk ((below_alloc HB.out (.cells #[.int .i64 y] 3)).trans (hk.below (fun b hb => (HN.out.2 b hb).1) (by have := HB.out.size; simp; omega))); clear hk1 hk2 hk3 hk)
        go_roundw
        case rel => exact ⟨i + 1, _, _, _, _, _, by omega, by go_num, rfl, ⟨HK2.out.symm⟩, HO3, HN3, HB3⟩
        case measure => simp [intOf]; omega
      · have HK2 := Aside.mk (lows_no hlt hy)
        rw [← HK.out] at HK2
        generalize l[i] = y at x0 hy HK2
        go_wp2
        go_roundw
        case rel => exact ⟨i + 1, _, _, _, _, _, by omega, by go_num, rfl, ⟨HK2.out.symm⟩, HO, HN, HB⟩
        case measure => simp [intOf]; omega
    · have hil : i = l.length := by omega
      have HK1 : Aside (k = lows x l) := ⟨by rw [HK.out, hil, List.take_length]⟩
      have hlt2 : ¬ ((i : Int) < (l.length : Int)) := by omega
      clear HK hil
      go_wp2_with (at_builtin; refine list_snoc el_int ow_int (owRow_alloc ow_int HO.out (.cells #[.int .i64 x] 3)) (w0 := w) (y := x) (Dx := []) (cs := [.int .i64 x]) ⟨rfl, rfl⟩ (by rw [List.append_nil]; exact HN.out.alloc _) (by have := HB.out.size; simp; omega) (.tmp 28) (.tmp 30) (by rfl) (by rfl) (by rfl) wr.heap.size (by rfl) (Loc.new wr _ _) (by have := HKL.out; have := HLL.out; omega) (by have := HKL.out; have := HLL.out; omega) (wr.heap.size + 1) (by simp) (fun g cap w' D' hk1 hk2 hk3 hk => ?_); have HO3 := Aside.mk hk1; have HN3 := Aside.mk hk2; have HB3 := Aside.mk ((below_alloc HB.out (.cells #[.int .i64 x] 3)).trans (hk.below (fun b hb => (HN.out.2 b hb).1) (by have := HB.out.size; simp; omega))); clear hk1 hk2 hk3 hk)
      have HK0 : Aside (k ++ [x] = lows x l ++ x :: highs x (l.take 0)) := ⟨by rw [HK1.out]; rfl⟩
      have HL0 : Aside (k.length ≤ l.length) := ⟨by have := HKL.out; omega⟩
      go_loopw [5, 7] (fun v5 v7 wr => ∃ (i g nv cv : Nat) (D : List Nat) (k : List Int), i ≤ l.length ∧ v7 = .int .i64 i ∧ v5 = .slice (some ⟨g, 0, none⟩) nv cv ∧ Aside (k = lows x l ++ x :: highs x (l.take i)) ∧ Aside (owInts wr D (.slice (some ⟨g, 0, none⟩) nv cv) k) ∧ Aside (New w wr D) ∧ Aside (Below w.heap.size w wr)) (fun _ v7 _ => l.length - (intOf v7).toNat)
      case atStart => exact ⟨0, _, _, _, _, _, Nat.zero_le _, rfl, rfl, HK0, HO3, HN3, HB3⟩
      case round =>
        clear HK0 HK1 HO3 HN3 HB3 HO HN HB HKL HL0
        obtain ⟨i, g0, nv, cv, D, k, hi, rfl, rfl, HK, HO, HN, HB⟩ := hrel
        have HKL : Aside (k.length ≤ 2 * l.length + 1) := ⟨by have h1 := lows_len x l; have h2 := highs_len x (l.take i); rw [List.length_take] at h2; rw [HK.out]; simp only [List.length_append, List.length_cons]; omega⟩
        by_cases hlt : i < l.length
        · obtain ⟨ad, hA, x0⟩ := rdInts_at (rdInts_mov HB.out HR.out) i hlt
          subst hA
          have p0 : (0 : Int) ≤ (i : Int) := by omega
          have p1 : (i : Int) < (l.length : Int) := by omega
          by_cases hy : x < l[i]
          · have HK2 : Aside (k ++ [l[i]] = lows x l ++ x :: highs x (l.take (i + 1))) := ⟨by rw [highs_yes hlt hy, HK.out]; simp⟩
            generalize l[i] = y at x0 hy HK2
            go_wp2_with (at_builtin; refine list_snoc el_int ow_int (owRow_alloc ow_int HO.out (.cells #[.int .i64 y] 3)) (w0 := w) (y := y) (Dx := []) (cs := [.int .i64 y]) ⟨rfl, rfl⟩ (by rw [List.append_nil]; exact HN.out.alloc _) (by have := HB.out.size; simp; omega) (.tmp 44) (.tmp 49) (by rfl) (by rfl) (by rfl) wr.heap.size (by rfl) (Loc.new wr _ _) (by have := HKL.out; have := HLL.out; omega) (by have := HKL.out; have := HLL.out; omega) (wr.heap.size + 1) (by simp) (fun g cap w' D' hk1 hk2 hk3 hk => ?_); have HO3 := Aside.mk hk1; have HN3 := Aside.mk hk2; have HB3 := Aside.mk ((below_alloc HB.out (.cells #[.int .i64 y] 3)).trans (hk.below (fun b hb => (HN.out.2 b hb).1) (by have := HB.out.size; simp; omega))); clear hk1 hk2 hk3 hk)
            go_roundw
            case rel => exact ⟨i + 1, _, _, _, _, _, by omega, by go_num, rfl, HK2, HO3, HN3, HB3⟩
            case measure => simp [intOf]; omega
          · have HK2 : Aside (k = lows x l ++ x :: highs x (l.take (i + 1))) := ⟨by rw [highs_no hlt hy]; exact HK.out⟩
            generalize l[i] = y at x0 hy HK2
            go_wp2
            go_roundw
            case rel => exact ⟨i + 1, _, _, _, _, _, by omega, by go_num, rfl, HK2, HO, HN, HB⟩
            case measure => simp [intOf]; omega
        · have hil : i = l.length := by omega
          have HF : Aside (k = putIn x l) := ⟨by rw [HK.out, hil, List.take_length]; rfl⟩
          have hlt2 : ¬ ((i : Int) < (l.length : Int)) := by omega
          clear HK hil
          go_wp2
          go_ret
          exact ⟨_, D, rfl, HF.out ▸ HO.out, HN.out, HB.out⟩
end Go.Proofs.Ytjfjpabfkembcaa.H
