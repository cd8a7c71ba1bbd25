/- A number put into an ascending list (the reference's l06Put): the walk. TakeOut, the program's: the walk. Printed by this session's gen_takeout.py. TakeOut, the reference's: the walk. Printed by this session's gen_takeout.py. -/
import Derived.Test.YtjfjpabfkembcaaHCopy
import Derived.Test.YtjfjpabfkembcaaHSnoc
import Derived.Test.YtjfjpabfkembcaaHPutIn
import Derived.Test.YtjfjpabfkembcaaHCur
import Derived.Test.YtjfjpabfkembcaaHAddMail
import Derived.Test.YtjfjpabfkembcaaHSet2
import Derived.Test.YtjfjpabfkembcaaHRegY
import Derived.Test.YtjfjpabfkembcaaHRestM
import Derived.Test.YtjfjpabfkembcaaHAdded
import Derived.Test.YtjfjpabfkembcaaHAddMailS
namespace Go.Proofs.Ytjfjpabfkembcaa.H
open Go.RowKit
set_option linter.unusedVariables false
set_option linter.unusedSimpArgs false
/-! A number put into an ascending list (the reference's l06Put): the walk. -/
def lows (x : Int) (l : List Int) : List Int := l.filter (fun y => decide (y < x))
def highs (x : Int) (l : List Int) : List Int := l.filter (fun y => decide (x < y))
theorem take_snoc {l : List Int} {i : Nat} (h : i < l.length) : l.take (i + 1) = l.take i ++ [l[i]] := by
  rw [List.take_add_one, List.getElem?_eq_getElem h]; rfl
theorem lows_yes {x : Int} {l : List Int} {i : Nat} (h : i < l.length) (hx : l[i] < x) : lows x (l.take (i + 1)) = lows x (l.take i) ++ [l[i]] := by
  unfold lows; rw [take_snoc h, List.filter_append]; simp [hx]
theorem lows_no {x : Int} {l : List Int} {i : Nat} (h : i < l.length) (hx : ¬ l[i] < x) : lows x (l.take (i + 1)) = lows x (l.take i) := by
  unfold lows; rw [take_snoc h, List.filter_append]; simp; omega
theorem highs_yes {x : Int} {l : List Int} {i : Nat} (h : i < l.length) (hx : x < l[i]) : highs x (l.take (i + 1)) = highs x (l.take i) ++ [l[i]] := by
  unfold highs; rw [take_snoc h, List.filter_append]; simp [hx]
theorem highs_no {x : Int} {l : List Int} {i : Nat} (h : i < l.length) (hx : ¬ x < l[i]) : highs x (l.take (i + 1)) = highs x (l.take i) := by
  unfold highs; rw [take_snoc h, List.filter_append]; simp; omega
theorem lows_len (x : Int) (l : List Int) : (lows x l).length ≤ l.length := List.length_filter_le _ _
theorem highs_len (x : Int) (l : List Int) : (highs x l).length ≤ l.length := List.length_filter_le _ _
theorem putIn_eq (x : Int) (l : List Int) : putIn x l = lows x l ++ x :: highs x l := rfl
set_option maxHeartbeats 2000000 in
set_option maxRecDepth 100000 in
theorem l06Put_calls (w : World) (v : Value) (l : List Int) (x : Int) (h : rdInts w v l) (hl : l.length ≤ 4000000) : Calls Try.prog 72 #[v, .int .i64 x] w (RetRow owInts (putIn x l) w) := by
  have HR := Aside.mk h
  have HLL := Aside.mk hl
  obtain ⟨A, c, rfl, _, hm⟩ := rd_len h
  clear h hl
  go_enter Try.func72, Try.ntmps72
  go_wp2
  go_loopw [5, 6] (fun v5 v6 wr => ∃ (i g nv cv : Nat) (D : List Nat) (k : List Int), i ≤ l.length ∧ v6 = .int .i64 i ∧ v5 = .slice (some ⟨g, 0, none⟩) nv cv ∧ Aside (k = lows x (l.take i)) ∧ Aside (owInts wr D (.slice (some ⟨g, 0, none⟩) nv cv) k) ∧ Aside (New w wr D) ∧ Aside (Below w.heap.size w wr)) (fun _ v6 _ => l.length - (intOf v6).toNat)
  case atStart => exact ⟨0, _, _, _, [w.heap.size], [], Nat.zero_le _, rfl, rfl, ⟨rfl⟩, ⟨owRow_lit0 w _ rfl⟩, ⟨new_lit0 w w _ _ rfl (Nat.le_refl _)⟩, ⟨below_alloc (Below.refl _ w) _⟩⟩
  case round =>
    obtain ⟨i, g0, nv, cv, D, k, hi, rfl, rfl, HK, HO, HN, HB⟩ := hrel
    have HKL : Aside (k.length ≤ i) := ⟨by have := lows_len x (l.take i); rw [← HK.out, List.length_take] at this; omega⟩
    by_cases hlt : i < l.length
    · obtain ⟨ad, hA, x0⟩ := rdInts_at (rdInts_mov HB.out HR.out) i hlt
      subst hA
      have p0 : (0 : Int) ≤ (i : Int) := by omega
      have p1 : (i : Int) < (l.length : Int) := by omega
      by_cases hy : l[i] < x
      · have HK2 := Aside.mk (lows_yes hlt hy)
        rw [← HK.out] at HK2
        generalize l[i] = y at x0 hy HK2
        go_wp2_with (at_builtin; refine list_snoc el_int ow_int (owRow_alloc ow_int HO.out (.cells #[.int .i64 y] 3)) (w0 := w) (y := y) (Dx := []) (cs := [.int .i64 y]) ⟨rfl, rfl⟩ (by rw [List.append_nil]; exact HN.out.alloc _) (by have := HB.out.size; simp; omega) (.tmp 21) (.tmp 26) (by rfl) (by rfl) (by rfl) wr.heap.size (by rfl) (Loc.new wr _ _) (by have := HKL.out; have := HLL.out; omega) (by have := HKL.out; have := HLL.out; omega) (wr.heap.size + 1) (by simp) (fun g cap w' D' hk1 hk2 hk3 hk => ?_); have HO3 := Aside.mk hk1; have HN3 := Aside.mk hk2; have HB3 := Aside.mk ((below_alloc HB.out (.cells #[.int .i64 y] 3)).trans (hk.below (fun b hb => (HN.out.2 b hb).1) (by have := HB.out.size; simp; omega))); clear hk1 hk2 hk3 hk)
        go_roundw
        case rel => exact ⟨i + 1, _, _, _, _, _, by omega, by go_num, rfl, ⟨HK2.out.symm⟩, HO3, HN3, HB3⟩
        case measure => simp [intOf]; omega
      · have HK2 := Aside.mk (lows_no hlt hy)
        rw [← HK.out] at HK2
        generalize l[i] = y at x0 hy HK2
        go_wp2
        go_roundw
        case rel => exact ⟨i + 1, _, _, _, _, _, by omega, by go_num, rfl, ⟨HK2.out.symm⟩, HO, HN, HB⟩
        case measure => simp [intOf]; omega
    · have hil : i = l.length := by omega
      have HK1 : Aside (k = lows x l) := ⟨by rw [HK.out, hil, List.take_length]⟩
      have hlt2 : ¬ ((i : Int) < (l.length : Int)) := by omega
      clear HK hil
      go_wp2_with (at_builtin; refine list_snoc el_int ow_int (owRow_alloc ow_int HO.out (.cells #[.int .i64 x] 3)) (w0 := w) (y := x) (Dx := []) (cs := [.int .i64 x]) ⟨rfl, rfl⟩ (by rw [List.append_nil]; exact HN.out.alloc _) (by have := HB.out.size; simp; omega) (.tmp 28) (.tmp 30) (by rfl) (by rfl) (by rfl) wr.heap.size (by rfl) (Loc.new wr _ _) (by have := HKL.out; have := HLL.out; omega) (by have := HKL.out; have := HLL.out; omega) (wr.heap.size + 1) (by simp) (fun g cap w' D' hk1 hk2 hk3 hk => ?_); have HO3 := Aside.mk hk1; have HN3 := Aside.mk hk2; have HB3 := Aside.mk ((below_alloc HB.out (.cells #[.int .i64 x] 3)).trans (hk.below (fun b hb => (HN.out.2 b hb).1) (by have := HB.out.size; simp; omega))); clear hk1 hk2 hk3 hk)
      have HK0 : Aside (k ++ [x] = lows x l ++ x :: highs x (l.take 0)) := ⟨by rw [HK1.out]; rfl⟩
      have HL0 : Aside (k.length ≤ l.length) := ⟨by have := HKL.out; omega⟩
      go_loopw [5, 7] (fun v5 v7 wr => ∃ (i g nv cv : Nat) (D : List Nat) (k : List Int), i ≤ l.length ∧ v7 = .int .i64 i ∧ v5 = .slice (some ⟨g, 0, none⟩) nv cv ∧ Aside (k = lows x l ++ x :: highs x (l.take i)) ∧ Aside (owInts wr D (.slice (some ⟨g, 0, none⟩) nv cv) k) ∧ Aside (New w wr D) ∧ Aside (Below w.heap.size w wr)) (fun _ v7 _ => l.length - (intOf v7).toNat)
      case atStart => exact ⟨0, _, _, _, _, _, Nat.zero_le _, rfl, rfl, HK0, HO3, HN3, HB3⟩
      case round =>
        clear HK0 HK1 HO3 HN3 HB3 HO HN HB HKL HL0
        obtain ⟨i, g0, nv, cv, D, k, hi, rfl, rfl, HK, HO, HN, HB⟩ := hrel
        have HKL : Aside (k.length ≤ 2 * l.length + 1) := ⟨by have h1 := lows_len x l; have h2 := highs_len x (l.take i); rw [List.length_take] at h2; rw [HK.out]; simp only [List.length_append, List.length_cons]; omega⟩
        by_cases hlt : i < l.length
        · obtain ⟨ad, hA, x0⟩ := rdInts_at (rdInts_mov HB.out HR.out) i hlt
          subst hA
          have p0 : (0 : Int) ≤ (i : Int) := by omega
          have p1 : (i : Int) < (l.length : Int) := by omega
          by_cases hy : x < l[i]
          · have HK2 : Aside (k ++ [l[i]] = lows x l ++ x :: highs x (l.take (i + 1))) := ⟨by rw [highs_yes hlt hy, HK.out]; simp⟩
            generalize l[i] = y at x0 hy HK2
            go_wp2_with (at_builtin; refine list_snoc el_int ow_int (owRow_alloc ow_int HO.out (.cells #[.int .i64 y] 3)) (w0 := w) (y := y) (Dx := []) (cs := [.int .i64 y]) ⟨rfl, rfl⟩ (by rw [List.append_nil]; exact HN.out.alloc _) (by have := HB.out.size; simp; omega) (.tmp 44) (.tmp 49) (by rfl) (by rfl) (by rfl) wr.heap.size (by rfl) (Loc.new wr _ _) (by have := HKL.out; have := HLL.out; omega) (by have := HKL.out; have := HLL.out; omega) (wr.heap.size + 1) (by simp) (fun g cap w' D' hk1 hk2 hk3 hk => ?_); have HO3 := Aside.mk hk1; have HN3 := Aside.mk hk2; have HB3 := Aside.mk ((below_alloc HB.out (.cells #[.int .i64 y] 3)).trans (hk.below (fun b hb => (HN.out.2 b hb).1) (by have := HB.out.size; simp; omega))); clear hk1 hk2 hk3 hk)
            go_roundw
            case rel => exact ⟨i + 1, _, _, _, _, _, by omega, by go_num, rfl, HK2, HO3, HN3, HB3⟩
            case measure => simp [intOf]; omega
          · have HK2 : Aside (k = lows x l ++ x :: highs x (l.take (i + 1))) := ⟨by rw [highs_no hlt hy]; exact HK.out⟩
            generalize l[i] = y at x0 hy HK2
            go_wp2
            go_roundw
            case rel => exact ⟨i + 1, _, _, _, _, _, by omega, by go_num, rfl, HK2, HO, HN, HB⟩
            case measure => simp [intOf]; omega
        · have hil : i = l.length := by omega
          have HF : Aside (k = putIn x l) := ⟨by rw [HK.out, hil, List.take_length]; rfl⟩
          have hlt2 : ¬ ((i : Int) < (l.length : Int)) := by omega
          clear HK hil
          go_wp2
          go_ret
          exact ⟨_, D, rfl, HF.out ▸ HO.out, HN.out, HB.out⟩
/-! TakeOut, the program's: the walk. Printed by this session's gen_takeout.py. -/
set_option maxHeartbeats 2000000 in
set_option maxRecDepth 100000 in
theorem takeOut_calls (w : World) (mv gv : Value) (b : Box) (g : Int) (h : rdMails w mv b.ml) (hg : rdInts w gv b.go) (hl : smBox b) (ht : txBox b) :
    Calls Try.prog 14 #[.agg #[.int .i64 b.g, .string b.nm, .int .i64 b.t, .int .i64 b.b, .int .i64 b.nx, mv, gv], .int .i64 g] w (RetBoxB w (takeOut b g)) := by
  obtain ⟨A0, c0, rfl, _, hm⟩ := rd_len h
  obtain ⟨A1, c1, rfl, _, _⟩ := rd_len hg
  have hl4 : b.ml.length ≤ 4000000 := hl.1.1
  have hl5 : b.go.length ≤ 4000000 := hl.2
  obtain ⟨wz, hwz⟩ : ∃ wz : World, wz.heap.size = w.heap.size + 2 := ⟨(w.alloc (.cells #[] 0)).alloc (.cells #[] 0), by simp⟩
  have HZ := Aside.mk hwz
  clear hwz
  have HR := Aside.mk h
  have HG := Aside.mk hg
  have HL := Aside.mk hl
  have HT := Aside.mk ht
  clear h hg hl ht
  rcases h1 : boxOk b with _ | _
  rotate_left
  by_cases h2 : 0 ≤ mailAt b.ml g
  by_cases h3 : b.go.length < 40
  · obtain ⟨kk, hkk⟩ : ∃ kk : Nat, mailAt b.ml g = (kk : Int) := Int.eq_ofNat_of_zero_le h2
    have hlt : kk < b.ml.length := by have := mailAt_lt h2; rw [hkk] at this; simpa using this
    obtain ⟨ag, hag⟩ : ∃ ag, addedL b.go g = ag := ⟨_, rfl⟩
    have HAG := Aside.mk hag
    have HE := Aside.mk (takeOut_yes h1 hkk h3)
    rw [hag] at HE
    clear hag
    have HKK := Aside.mk hkk
    have HLT := Aside.mk hlt
    have hq0 : ¬ ((kk : Int) < 0) := by omega
    have hq1 : ¬ ((b.go.length : Int) = 40) := by omega
    have hq2 : ((b.go.length : Int) == 40) = false := by simp; omega
    have hq3 : decide ((kk : Int) < 0) = false := decide_eq_false hq0
    have e1 : IntKind.i64.wrap ((kk : Int) + 1) = (kk : Int) + 1 := by rw [IntKind.wrap_i64]; omega
    clear h2 hkk
    go_enter Try.func14, Try.ntmps14
    go_wp2_with (fail)
    refine (copyBox_calls _ _ _ b (rdMails_mov (by (repeat (first | (with_reducible exact HB.out) | (with_reducible exact Below.refl _ _) | (with_reducible refine below_set ?_ (by first | omega | (dsimp only; omega) | (simp; done) | (simp; omega)) _) | (with_reducible refine below_alloc ?_ _) | (with_reducible refine below_drewN ?_ _) | (with_reducible refine below_drew ?_)))) HR.out) (rdInts_mov (by (repeat (first | (with_reducible exact HB.out) | (with_reducible exact Below.refl _ _) | (with_reducible refine below_set ?_ (by first | omega | (dsimp only; omega) | (simp; done) | (simp; omega)) _) | (with_reducible refine below_alloc ?_ _) | (with_reducible refine below_drewN ?_ _) | (with_reducible refine below_drew ?_)))) HG.out) HL.out).mono ?_
    rintro e w1 ⟨mx, gx, D, rfl, ho, hn, hb⟩
    obtain ⟨Am, cm, Ag, cg, D1, D2, rfl, rfl, rfl, hom, hog⟩ := box_parts ho
    have L0 := Aside.mk (((Loc.new w #[.int .i64 b.g, .string b.nm, .int .i64 b.t, .int .i64 b.b, .int .i64 b.nx, .slice A0 b.ml.length c0, .slice A1 b.go.length c1] 32).alloc (.cells #[.int .i64 0, .string ⟨#[]⟩, .int .i64 0, .int .i64 0, .int .i64 0, .slice none 0 0, .slice none 0 0] 32)).below hb)
    have L1 := Aside.mk ((Loc.new1 w (.cells #[.int .i64 b.g, .string b.nm, .int .i64 b.t, .int .i64 b.b, .int .i64 b.nx, .slice A0 b.ml.length c0, .slice A1 b.go.length c1] 32) #[.int .i64 0, .string ⟨#[]⟩, .int .i64 0, .int .i64 0, .int .i64 0, .slice none 0 0, .slice none 0 0] 32).below hb)
    have HB := Aside.mk (below_step (w0 := w) (by (repeat (first | (with_reducible exact HB.out) | (with_reducible exact Below.refl _ _) | (with_reducible refine below_set ?_ (by first | omega | (dsimp only; omega) | (simp; done) | (simp; omega)) _) | (with_reducible refine below_alloc ?_ _) | (with_reducible refine below_drewN ?_ _) | (with_reducible refine below_drew ?_)))) hb)
    have HOm := Aside.mk hom
    have HOg := Aside.mk hog
    have HN : Aside (New wz w1 (D1 ++ D2)) := ⟨hn.from (by have := HZ.out; simp; omega)⟩
    clear ho hom hog hn hb
    have l0 := L0.out.cells
    have l1 := L1.out.cells
    have q0 := L0.out.lt
    have q1 := L1.out.lt
    go_wp2_with (fail)
    replace L0 := Aside.mk (L0.out.alloc (.cells #[.int .i64 b.g, .string b.nm, .int .i64 b.t, .int .i64 b.b, .int .i64 b.nx, .slice Am b.ml.length cm, .slice Ag b.go.length cg] 32))
    replace L1 := Aside.mk (L1.out.alloc (.cells #[.int .i64 b.g, .string b.nm, .int .i64 b.t, .int .i64 b.b, .int .i64 b.nx, .slice Am b.ml.length cm, .slice Ag b.go.length cg] 32))
    have L3 := Aside.mk (Loc.new w1 #[.int .i64 b.g, .string b.nm, .int .i64 b.t, .int .i64 b.b, .int .i64 b.nx, .slice Am b.ml.length cm, .slice Ag b.go.length cg] 32)
    replace HB := Aside.mk (below_alloc HB.out (.cells #[.int .i64 b.g, .string b.nm, .int .i64 b.t, .int .i64 b.b, .int .i64 b.nx, .slice Am b.ml.length cm, .slice Ag b.go.length cg] 32))
    replace HOm := Aside.mk (owRow_alloc ow_mail HOm.out (.cells #[.int .i64 b.g, .string b.nm, .int .i64 b.t, .int .i64 b.b, .int .i64 b.nx, .slice Am b.ml.length cm, .slice Ag b.go.length cg] 32))
    replace HOg := Aside.mk (owRow_alloc ow_int HOg.out (.cells #[.int .i64 b.g, .string b.nm, .int .i64 b.t, .int .i64 b.b, .int .i64 b.nx, .slice Am b.ml.length cm, .slice Ag b.go.length cg] 32))
    have HN0 := HN
    replace HN := Aside.mk (HN.out.alloc (.cells #[.int .i64 b.g, .string b.nm, .int .i64 b.t, .int .i64 b.b, .int .i64 b.nx, .slice Am b.ml.length cm, .slice Ag b.go.length cg] 32))
    obtain ⟨B3, hB3⟩ : ∃ B3, B3 = w1.heap.size := ⟨_, rfl⟩
    have HB3 : Aside (w.heap.size + 2 ≤ B3 ∧ B3 ∉ D1 ++ D2) := ⟨by have := L1.out.lt; simp at this; omega, fun hx => by have := (HN0.out.2 _ hx).2; omega⟩
    rw [← hB3] at L3
    obtain ⟨w2, hw2⟩ : ∃ w2, w2 = w1.alloc (.cells #[.int .i64 b.g, .string b.nm, .int .i64 b.t, .int .i64 b.b, .int .i64 b.nx, .slice Am b.ml.length cm, .slice Ag b.go.length cg] 32) := ⟨_, rfl⟩
    rw [← hw2] at L0 L1 L3 HB HOm HOg HN
    have l3 := L3.out.cells
    have q3 := L3.out.lt
    have f1 := L1.out.free
    have f3 := L3.out.free
    clear l0 l1 q0 q1 HN0
    have l0 := L0.out.cells
    have l1 := L1.out.cells
    have q0 := L0.out.lt
    have q1 := L1.out.lt
    try rw [← hB3]
    try rw [← hw2]
    clear hB3 hw2
    go_wp2_with (first
      | (go_at_call 36; refine (boxOk_calls _ _ _ b (rdMails_mov HB.out HR.out) (rdInts_mov HB.out HG.out) HT.out.1 HT.out.2).mono ?_; rintro e w' ⟨rfl, hb⟩; replace L0 := Aside.mk (L0.out.below hb); replace L1 := Aside.mk (L1.out.below hb); replace L3 := Aside.mk (L3.out.below hb); replace HOm := Aside.mk (owRow_below ow_mail HOm.out hb); replace HOg := Aside.mk (owRow_below ow_int HOg.out hb); replace HN := Aside.mk (HN.out.mono hb.size); replace HB := Aside.mk (below_step HB.out hb); (try clear l0); (try clear q0); (try clear f0); (try clear l1); (try clear q1); (try clear f1); (try clear l3); (try clear q3); (try clear f3); have l0 := L0.out.cells; have q0 := L0.out.lt; have f0 := L0.out.free; have l1 := L1.out.cells; have q1 := L1.out.lt; have f1 := L1.out.free; have l3 := L3.out.cells; have q3 := L3.out.lt; have f3 := L3.out.free; clear hb)
      | (go_at_call 38; refine (mailAt_calls _ _ _ b g (rdMails_mov HB.out HR.out) rfl).mono ?_; rintro e w' ⟨he, hb⟩; (try rw [HKK.out] at he); subst he; replace L0 := Aside.mk (L0.out.below hb); replace L1 := Aside.mk (L1.out.below hb); replace L3 := Aside.mk (L3.out.below hb); replace HOm := Aside.mk (owRow_below ow_mail HOm.out hb); replace HOg := Aside.mk (owRow_below ow_int HOg.out hb); replace HN := Aside.mk (HN.out.mono hb.size); replace HB := Aside.mk (below_step HB.out hb); (try clear l0); (try clear q0); (try clear f0); (try clear l1); (try clear q1); (try clear f1); (try clear l3); (try clear q3); (try clear f3); have l0 := L0.out.cells; have q0 := L0.out.lt; have f0 := L0.out.free; have l1 := L1.out.cells; have q1 := L1.out.lt; have f1 := L1.out.free; have l3 := L3.out.cells; have q3 := L3.out.lt; have f3 := L3.out.free; clear hb))
    clear h1 h3
    refine (delete_calls _ D1 _ b.ml kk HOm.out HN.out.left.1 HLT.out).mono ?_
    rintro e w3 ⟨g0, c', D', hv, he, hom', hnd, hsub, hk⟩
    obtain ⟨n1, hn1⟩ : ∃ n1, n1 = b.ml.length - 1 := ⟨_, rfl⟩
    rw [← hn1] at he hom'
    subst he
    clear hn1
    have HD1 : Aside (∀ x ∈ D1, w.heap.size + 2 ≤ x) := ⟨fun x hx => by have := (HN.out.2 x (by simp [hx])).1; have := HZ.out; omega⟩
    replace L0 := Aside.mk (L0.out.keep hk (fun hx => by have := HD1.out _ hx; omega))
    replace L1 := Aside.mk (L1.out.keep hk (fun hx => by have := HD1.out _ hx; omega))
    replace L3 := Aside.mk (L3.out.keep hk (fun hx => HB3.out.2 (by simp [hx])))
    replace HB := Aside.mk (HB.out.trans (hk.below (fun x hx => by have := HD1.out x hx; omega) HB.out.size))
    replace HOm := Aside.mk hom'
    have HN3 : Aside (New wz w3 D') := ⟨⟨hnd, fun x hx => ⟨(HN.out.2 x (by simp [hsub x hx])).1, by have := (HN.out.2 x (by simp [hsub x hx])).2; have := hk.size; omega⟩⟩⟩
    have HB3' : Aside (w.heap.size + 2 ≤ B3 ∧ B3 ∉ D') := ⟨HB3.out.1, fun hx => HB3.out.2 (by simp [hsub _ hx])⟩
    clear hv hom' hnd hsub hk HOg HN HB3 HD1 l0 l1 l3 q0 q1 q3 f0 f1 f3
    have l0 := L0.out.cells
    have q0 := L0.out.lt
    have l1 := L1.out.cells
    have q1 := L1.out.lt
    have f1 := L1.out.free
    have l3 := L3.out.cells
    have q3 := L3.out.lt
    have f3 := L3.out.free
    go_wp2_with (fail)
    have L3b : Aside (Loc (w3.setCell ⟨B3, 5, none⟩ (.slice (some ⟨g0, 0, none⟩) n1 c')) B3 #[.int .i64 b.g, .string b.nm, .int .i64 b.t, .int .i64 b.b, .int .i64 b.nx, .slice (some ⟨g0, 0, none⟩) n1 c', .slice Ag b.go.length cg] 32) := ⟨L3.out.put 5 (.slice (some ⟨g0, 0, none⟩) n1 c')⟩
    replace L0 := Aside.mk (L0.out.set (p := ⟨B3, 5, none⟩) (by show w.heap.size ≠ B3; have := HB3'.out.1; omega) (.slice (some ⟨g0, 0, none⟩) n1 c'))
    replace L1 := Aside.mk (L1.out.set (p := ⟨B3, 5, none⟩) (by show w.heap.size + 1 ≠ B3; have := HB3'.out.1; omega) (.slice (some ⟨g0, 0, none⟩) n1 c'))
    replace HOm := Aside.mk (owRow_set ow_mail HOm.out (p := ⟨B3, 5, none⟩) HB3'.out.2 (.slice (some ⟨g0, 0, none⟩) n1 c'))
    replace HB := Aside.mk (below_set HB.out (p := ⟨B3, 5, none⟩) (by show w.heap.size ≤ B3; have := HB3'.out.1; omega) (.slice (some ⟨g0, 0, none⟩) n1 c'))
    replace HN3 := Aside.mk (HN3.out.set ⟨B3, 5, none⟩ (.slice (some ⟨g0, 0, none⟩) n1 c'))
    have hcon := added_calls _ _ b.go g (rdInts_mov HB.out HG.out) hl5
    rw [HAG.out] at hcon
    refine hcon.mono ?_
    clear hcon
    rintro e w4 ⟨v4, Dg, rfl, hog, hng, hb⟩
    obtain ⟨An, cn, rfl⟩ := cell_own ow_int hog
    have HOg := Aside.mk hog
    have HN : Aside (New wz w4 (D' ++ Dg)) := ⟨New.app HN3.out (by have := HB.out.size; have := HZ.out; have := L1.out.lt; simp at *; omega) hng hb.size⟩
    have HB3 : Aside (w.heap.size + 2 ≤ B3 ∧ B3 ∉ D' ∧ B3 ∉ Dg) := ⟨HB3'.out.1, HB3'.out.2, fun hx => by have := (hng.2 _ hx).1; have := L3b.out.lt; omega⟩
    replace L0 := Aside.mk (L0.out.below hb)
    replace L1 := Aside.mk (L1.out.below hb)
    replace L3 := Aside.mk (L3b.out.below hb)
    replace HOm := Aside.mk (owRow_below ow_mail HOm.out hb)
    replace HB := Aside.mk (below_step HB.out hb)
    clear hog hng hb L3b HN3 HB3' l0 l1 l3 q0 q1 q3 f1 f3
    have l0 := L0.out.cells
    have q0 := L0.out.lt
    have l1 := L1.out.cells
    have q1 := L1.out.lt
    have f1 := L1.out.free
    have l3 := L3.out.cells
    have q3 := L3.out.lt
    have f3 := L3.out.free
    have HOF := Aside.mk (owRow_set ow_mail HOm.out (p := ⟨B3, 6, none⟩) HB3.out.2.1 (.slice An ag.length cn))
    have HOG := Aside.mk (owRow_set ow_int HOg.out (p := ⟨B3, 6, none⟩) HB3.out.2.2 (.slice An ag.length cn))
    have hne1 : w.heap.size + 1 ≠ B3 := by have := HB3.out.1; omega
    have hne2 : B3 ≠ w.heap.size + 1 := fun e => hne1 e.symm
    clear e1 hq0 hq1 hq2 hq3 hl4 hl5 hm l0 q0
    go_wp2
    have hB3w : w.heap.size ≤ B3 := by have := HB3.out.1; omega
    refine bodyPost_ret (v := .tuple #[.agg #[.int .i64 b.g, .string b.nm, .int .i64 b.t, .int .i64 b.b, .int .i64 b.nx, .slice (some ⟨g0, 0, none⟩) n1 c', .slice An ag.length cn], .bool true]) (by simp [results, go_sem, l1, l3, q1, q3]) rfl ?_
    rw [HE.out]
    have HDm : Aside (∀ x ∈ D', w.heap.size + 2 ≤ x) := ⟨fun x hx => by have := (HN.out.2 x (by simp [hx])).1; have := HZ.out; omega⟩
    have HDg : Aside (∀ x ∈ Dg, w.heap.size + 2 ≤ x) := ⟨fun x hx => by have := (HN.out.2 x (by simp [hx])).1; have := HZ.out; omega⟩
    have HN0 := Aside.mk (HN.out.from (w0 := w) (by have := HZ.out; omega))
    refine ⟨_, _, D' ++ Dg, rfl, ⟨_, _, D', Dg, rfl, rfl, ?_, ?_⟩, ?_, ?_⟩
    · (repeat (first | (with_reducible exact HOF.out) | (with_reducible refine owRow_far ow_mail (w.heap.size + 2) ?_ HDm.out (by first | omega | (dsimp only; omega) | (simp; done) | (simp; omega)) _) | (with_reducible refine owRow_alloc ow_mail ?_ _)))
    · (repeat (first | (with_reducible exact HOG.out) | (with_reducible refine owRow_far ow_int (w.heap.size + 2) ?_ HDg.out (by first | omega | (dsimp only; omega) | (simp; done) | (simp; omega)) _) | (with_reducible refine owRow_alloc ow_int ?_ _)))
    · (repeat (first | (with_reducible exact HN0.out) | (with_reducible refine New.set ?_ _ _) | (with_reducible refine New.alloc ?_ _) | (with_reducible refine New.drew ?_)))
    · (repeat (first | (with_reducible exact HB.out) | (with_reducible exact Below.refl _ _) | (with_reducible refine below_set ?_ (by first | omega | (dsimp only; omega) | (simp; done) | (simp; omega)) _) | (with_reducible refine below_alloc ?_ _) | (with_reducible refine below_drewN ?_ _) | (with_reducible refine below_drew ?_)))
  all_goals
    have HE : Aside (takeOut b g = (b, false)) := ⟨by unfold takeOut; simp [*]; try omega⟩
    have HKK : Aside (mailAt b.ml g = mailAt b.ml g) := ⟨rfl⟩
    (try have h40 := (box_gone h1).2)
    (try have h41 : (b.go.length : Int) = 40 := by omega)
    go_enter Try.func14, Try.ntmps14
    go_wp2_with (fail)
    refine (copyBox_calls _ _ _ b (rdMails_mov (by (repeat (first | (with_reducible exact HB.out) | (with_reducible exact Below.refl _ _) | (with_reducible refine below_set ?_ (by first | omega | (dsimp only; omega) | (simp; done) | (simp; omega)) _) | (with_reducible refine below_alloc ?_ _) | (with_reducible refine below_drewN ?_ _) | (with_reducible refine below_drew ?_)))) HR.out) (rdInts_mov (by (repeat (first | (with_reducible exact HB.out) | (with_reducible exact Below.refl _ _) | (with_reducible refine below_set ?_ (by first | omega | (dsimp only; omega) | (simp; done) | (simp; omega)) _) | (with_reducible refine below_alloc ?_ _) | (with_reducible refine below_drewN ?_ _) | (with_reducible refine below_drew ?_)))) HG.out) HL.out).mono ?_
    rintro e w1 ⟨mx, gx, D, rfl, ho, hn, hb⟩
    obtain ⟨Am, cm, Ag, cg, D1, D2, rfl, rfl, rfl, hom, hog⟩ := box_parts ho
    have L0 := Aside.mk (((Loc.new w #[.int .i64 b.g, .string b.nm, .int .i64 b.t, .int .i64 b.b, .int .i64 b.nx, .slice A0 b.ml.length c0, .slice A1 b.go.length c1] 32).alloc (.cells #[.int .i64 0, .string ⟨#[]⟩, .int .i64 0, .int .i64 0, .int .i64 0, .slice none 0 0, .slice none 0 0] 32)).below hb)
    have L1 := Aside.mk ((Loc.new1 w (.cells #[.int .i64 b.g, .string b.nm, .int .i64 b.t, .int .i64 b.b, .int .i64 b.nx, .slice A0 b.ml.length c0, .slice A1 b.go.length c1] 32) #[.int .i64 0, .string ⟨#[]⟩, .int .i64 0, .int .i64 0, .int .i64 0, .slice none 0 0, .slice none 0 0] 32).below hb)
    have HB := Aside.mk (below_step (w0 := w) (by (repeat (first | (with_reducible exact HB.out) | (with_reducible exact Below.refl _ _) | (with_reducible refine below_set ?_ (by first | omega | (dsimp only; omega) | (simp; done) | (simp; omega)) _) | (with_reducible refine below_alloc ?_ _) | (with_reducible refine below_drewN ?_ _) | (with_reducible refine below_drew ?_)))) hb)
    have HOm := Aside.mk hom
    have HOg := Aside.mk hog
    have HN : Aside (New wz w1 (D1 ++ D2)) := ⟨hn.from (by have := HZ.out; simp; omega)⟩
    clear ho hom hog hn hb
    have l0 := L0.out.cells
    have l1 := L1.out.cells
    have q0 := L0.out.lt
    have q1 := L1.out.lt
    go_wp2_with (fail)
    replace L0 := Aside.mk (L0.out.alloc (.cells #[.int .i64 b.g, .string b.nm, .int .i64 b.t, .int .i64 b.b, .int .i64 b.nx, .slice Am b.ml.length cm, .slice Ag b.go.length cg] 32))
    replace L1 := Aside.mk (L1.out.alloc (.cells #[.int .i64 b.g, .string b.nm, .int .i64 b.t, .int .i64 b.b, .int .i64 b.nx, .slice Am b.ml.length cm, .slice Ag b.go.length cg] 32))
    have L3 := Aside.mk (Loc.new w1 #[.int .i64 b.g, .string b.nm, .int .i64 b.t, .int .i64 b.b, .int .i64 b.nx, .slice Am b.ml.length cm, .slice Ag b.go.length cg] 32)
    replace HB := Aside.mk (below_alloc HB.out (.cells #[.int .i64 b.g, .string b.nm, .int .i64 b.t, .int .i64 b.b, .int .i64 b.nx, .slice Am b.ml.length cm, .slice Ag b.go.length cg] 32))
    replace HOm := Aside.mk (owRow_alloc ow_mail HOm.out (.cells #[.int .i64 b.g, .string b.nm, .int .i64 b.t, .int .i64 b.b, .int .i64 b.nx, .slice Am b.ml.length cm, .slice Ag b.go.length cg] 32))
    replace HOg := Aside.mk (owRow_alloc ow_int HOg.out (.cells #[.int .i64 b.g, .string b.nm, .int .i64 b.t, .int .i64 b.b, .int .i64 b.nx, .slice Am b.ml.length cm, .slice Ag b.go.length cg] 32))
    have HN0 := HN
    replace HN := Aside.mk (HN.out.alloc (.cells #[.int .i64 b.g, .string b.nm, .int .i64 b.t, .int .i64 b.b, .int .i64 b.nx, .slice Am b.ml.length cm, .slice Ag b.go.length cg] 32))
    obtain ⟨B3, hB3⟩ : ∃ B3, B3 = w1.heap.size := ⟨_, rfl⟩
    have HB3 : Aside (w.heap.size + 2 ≤ B3 ∧ B3 ∉ D1 ++ D2) := ⟨by have := L1.out.lt; simp at this; omega, fun hx => by have := (HN0.out.2 _ hx).2; omega⟩
    rw [← hB3] at L3
    obtain ⟨w2, hw2⟩ : ∃ w2, w2 = w1.alloc (.cells #[.int .i64 b.g, .string b.nm, .int .i64 b.t, .int .i64 b.b, .int .i64 b.nx, .slice Am b.ml.length cm, .slice Ag b.go.length cg] 32) := ⟨_, rfl⟩
    rw [← hw2] at L0 L1 L3 HB HOm HOg HN
    have l3 := L3.out.cells
    have q3 := L3.out.lt
    have f1 := L1.out.free
    have f3 := L3.out.free
    clear l0 l1 q0 q1 HN0
    have l0 := L0.out.cells
    have l1 := L1.out.cells
    have q0 := L0.out.lt
    have q1 := L1.out.lt
    try rw [← hB3]
    try rw [← hw2]
    clear hB3 hw2
    go_wp2_with (first
      | (go_at_call 36; refine (boxOk_calls _ _ _ b (rdMails_mov HB.out HR.out) (rdInts_mov HB.out HG.out) HT.out.1 HT.out.2).mono ?_; rintro e w' ⟨rfl, hb⟩; replace L0 := Aside.mk (L0.out.below hb); replace L1 := Aside.mk (L1.out.below hb); replace L3 := Aside.mk (L3.out.below hb); replace HOm := Aside.mk (owRow_below ow_mail HOm.out hb); replace HOg := Aside.mk (owRow_below ow_int HOg.out hb); replace HN := Aside.mk (HN.out.mono hb.size); replace HB := Aside.mk (below_step HB.out hb); (try clear l0); (try clear q0); (try clear f0); (try clear l1); (try clear q1); (try clear f1); (try clear l3); (try clear q3); (try clear f3); have l0 := L0.out.cells; have q0 := L0.out.lt; have f0 := L0.out.free; have l1 := L1.out.cells; have q1 := L1.out.lt; have f1 := L1.out.free; have l3 := L3.out.cells; have q3 := L3.out.lt; have f3 := L3.out.free; clear hb)
      | (go_at_call 38; refine (mailAt_calls _ _ _ b g (rdMails_mov HB.out HR.out) rfl).mono ?_; rintro e w' ⟨he, hb⟩; (try rw [HKK.out] at he); subst he; replace L0 := Aside.mk (L0.out.below hb); replace L1 := Aside.mk (L1.out.below hb); replace L3 := Aside.mk (L3.out.below hb); replace HOm := Aside.mk (owRow_below ow_mail HOm.out hb); replace HOg := Aside.mk (owRow_below ow_int HOg.out hb); replace HN := Aside.mk (HN.out.mono hb.size); replace HB := Aside.mk (below_step HB.out hb); (try clear l0); (try clear q0); (try clear f0); (try clear l1); (try clear q1); (try clear f1); (try clear l3); (try clear q3); (try clear f3); have l0 := L0.out.cells; have q0 := L0.out.lt; have f0 := L0.out.free; have l1 := L1.out.cells; have q1 := L1.out.lt; have f1 := L1.out.free; have l3 := L3.out.cells; have q3 := L3.out.lt; have f3 := L3.out.free; clear hb))
    refine bodyPost_ret (v := .tuple #[.agg #[.int .i64 b.g, .string b.nm, .int .i64 b.t, .int .i64 b.b, .int .i64 b.nx, .slice Am b.ml.length cm, .slice Ag b.go.length cg], .bool false]) (by simp [results, go_sem, l1, l3, q1, q3]) rfl ?_
    rw [HE.out]
    have HDm : Aside (∀ x ∈ D1, w.heap.size + 2 ≤ x) := ⟨fun x hx => by have := (HN.out.2 x (by simp [hx])).1; have := HZ.out; omega⟩
    have HDg : Aside (∀ x ∈ D2, w.heap.size + 2 ≤ x) := ⟨fun x hx => by have := (HN.out.2 x (by simp [hx])).1; have := HZ.out; omega⟩
    have HN0 := Aside.mk (HN.out.from (w0 := w) (by have := HZ.out; omega))
    refine ⟨_, _, D1 ++ D2, rfl, ⟨_, _, D1, D2, rfl, rfl, ?_, ?_⟩, ?_, ?_⟩
    · (repeat (first | (with_reducible exact HOm.out) | (with_reducible refine owRow_far ow_mail (w.heap.size + 2) ?_ HDm.out (by first | omega | (dsimp only; omega) | (simp; done) | (simp; omega)) _) | (with_reducible refine owRow_alloc ow_mail ?_ _)))
    · (repeat (first | (with_reducible exact HOg.out) | (with_reducible refine owRow_far ow_int (w.heap.size + 2) ?_ HDg.out (by first | omega | (dsimp only; omega) | (simp; done) | (simp; omega)) _) | (with_reducible refine owRow_alloc ow_int ?_ _)))
    · (repeat (first | (with_reducible exact HN0.out) | (with_reducible refine New.set ?_ _ _) | (with_reducible refine New.alloc ?_ _) | (with_reducible refine New.drew ?_)))
    · (repeat (first | (with_reducible exact HB.out) | (with_reducible exact Below.refl _ _) | (with_reducible refine below_set ?_ (by first | omega | (dsimp only; omega) | (simp; done) | (simp; omega)) _) | (with_reducible refine below_alloc ?_ _) | (with_reducible refine below_drewN ?_ _) | (with_reducible refine below_drew ?_)))
/-! TakeOut, the reference's: the walk. Printed by this session's gen_takeout.py. -/
theorem takeOut_yesS {b : Box} {g : Int} {k : Nat} (hb : boxOk b = true) (hk : mailAt b.ml g = (k : Int)) (hl : b.go.length < 40) :
    takeOut b g = ({ b with ml := b.ml.eraseIdx k, go := putIn g b.go }, true) := by rw [takeOut_yes hb hk hl, addedL_putIn (box_gone hb).1 (box_fresh hb hk)]
set_option maxHeartbeats 2000000 in
set_option maxRecDepth 100000 in
theorem specTakeOut_calls (w : World) (mv gv : Value) (b : Box) (g : Int) (h : rdMails w mv b.ml) (hg : rdInts w gv b.go) (hl : smBox b) (ht : txBox b) :
    Calls Try.prog 12 #[.agg #[.int .i64 b.g, .string b.nm, .int .i64 b.t, .int .i64 b.b, .int .i64 b.nx, mv, gv], .int .i64 g] w (RetBoxB w (takeOut b g)) := by
  obtain ⟨A0, c0, rfl, _, hm⟩ := rd_len h
  obtain ⟨A1, c1, rfl, _, _⟩ := rd_len hg
  have hl4 : b.ml.length ≤ 4000000 := hl.1.1
  have hl5 : b.go.length ≤ 4000000 := hl.2
  obtain ⟨wz, hwz⟩ : ∃ wz : World, wz.heap.size = w.heap.size + 2 := ⟨(w.alloc (.cells #[] 0)).alloc (.cells #[] 0), by simp⟩
  have HZ := Aside.mk hwz
  clear hwz
  have HR := Aside.mk h
  have HG := Aside.mk hg
  have HL := Aside.mk hl
  have HT := Aside.mk ht
  clear h hg hl ht
  rcases h1 : boxOk b with _ | _
  rotate_left
  by_cases h2 : 0 ≤ mailAt b.ml g
  by_cases h3 : b.go.length < 40
  · obtain ⟨kk, hkk⟩ : ∃ kk : Nat, mailAt b.ml g = (kk : Int) := Int.eq_ofNat_of_zero_le h2
    have hlt : kk < b.ml.length := by have := mailAt_lt h2; rw [hkk] at this; simpa using this
    obtain ⟨ag, hag⟩ : ∃ ag, putIn g b.go = ag := ⟨_, rfl⟩
    have HAG := Aside.mk hag
    have HE := Aside.mk (takeOut_yesS h1 hkk h3)
    rw [hag] at HE
    clear hag
    have HKK := Aside.mk hkk
    have HLT := Aside.mk hlt
    have hq0 : ¬ ((kk : Int) < 0) := by omega
    have hq1 : ¬ ((40 : Int) ≤ (b.go.length : Int)) := by omega
    have hq2 : decide ((40 : Int) ≤ (b.go.length : Int)) = false := decide_eq_false hq1
    have hq3 : decide ((kk : Int) < 0) = false := decide_eq_false hq0
    have e1 : IntKind.i64.wrap ((kk : Int) + 1) = (kk : Int) + 1 := by rw [IntKind.wrap_i64]; omega
    clear h2 hkk
    go_enter Try.func12, Try.ntmps12
    go_wp2_with (fail)
    refine (l06Copy_calls _ _ _ b (rdMails_mov (by (repeat (first | (with_reducible exact HB.out) | (with_reducible exact Below.refl _ _) | (with_reducible refine below_set ?_ (by first | omega | (dsimp only; omega) | (simp; done) | (simp; omega)) _) | (with_reducible refine below_alloc ?_ _) | (with_reducible refine below_drewN ?_ _) | (with_reducible refine below_drew ?_)))) HR.out) (rdInts_mov (by (repeat (first | (with_reducible exact HB.out) | (with_reducible exact Below.refl _ _) | (with_reducible refine below_set ?_ (by first | omega | (dsimp only; omega) | (simp; done) | (simp; omega)) _) | (with_reducible refine below_alloc ?_ _) | (with_reducible refine below_drewN ?_ _) | (with_reducible refine below_drew ?_)))) HG.out) HL.out).mono ?_
    rintro e w1 ⟨mx, gx, D, rfl, ho, hn, hb⟩
    obtain ⟨Am, cm, Ag, cg, D1, D2, rfl, rfl, rfl, hom, hog⟩ := box_parts ho
    have L0 := Aside.mk (((Loc.new w #[.int .i64 b.g, .string b.nm, .int .i64 b.t, .int .i64 b.b, .int .i64 b.nx, .slice A0 b.ml.length c0, .slice A1 b.go.length c1] 32).alloc (.cells #[.int .i64 0, .string ⟨#[]⟩, .int .i64 0, .int .i64 0, .int .i64 0, .slice none 0 0, .slice none 0 0] 32)).below hb)
    have L1 := Aside.mk ((Loc.new1 w (.cells #[.int .i64 b.g, .string b.nm, .int .i64 b.t, .int .i64 b.b, .int .i64 b.nx, .slice A0 b.ml.length c0, .slice A1 b.go.length c1] 32) #[.int .i64 0, .string ⟨#[]⟩, .int .i64 0, .int .i64 0, .int .i64 0, .slice none 0 0, .slice none 0 0] 32).below hb)
    have HB := Aside.mk (below_step (w0 := w) (by (repeat (first | (with_reducible exact HB.out) | (with_reducible exact Below.refl _ _) | (with_reducible refine below_set ?_ (by first | omega | (dsimp only; omega) | (simp; done) | (simp; omega)) _) | (with_reducible refine below_alloc ?_ _) | (with_reducible refine below_drewN ?_ _) | (with_reducible refine below_drew ?_)))) hb)
    have HOm := Aside.mk hom
    have HOg := Aside.mk hog
    have HN : Aside (New wz w1 (D1 ++ D2)) := ⟨hn.from (by have := HZ.out; simp; omega)⟩
    clear ho hom hog hn hb
    have l0 := L0.out.cells
    have l1 := L1.out.cells
    have q0 := L0.out.lt
    have q1 := L1.out.lt
    go_wp2_with (fail)
    replace L0 := Aside.mk (L0.out.alloc (.cells #[.int .i64 b.g, .string b.nm, .int .i64 b.t, .int .i64 b.b, .int .i64 b.nx, .slice Am b.ml.length cm, .slice Ag b.go.length cg] 32))
    replace L1 := Aside.mk (L1.out.alloc (.cells #[.int .i64 b.g, .string b.nm, .int .i64 b.t, .int .i64 b.b, .int .i64 b.nx, .slice Am b.ml.length cm, .slice Ag b.go.length cg] 32))
    have L3 := Aside.mk (Loc.new w1 #[.int .i64 b.g, .string b.nm, .int .i64 b.t, .int .i64 b.b, .int .i64 b.nx, .slice Am b.ml.length cm, .slice Ag b.go.length cg] 32)
    replace HB := Aside.mk (below_alloc HB.out (.cells #[.int .i64 b.g, .string b.nm, .int .i64 b.t, .int .i64 b.b, .int .i64 b.nx, .slice Am b.ml.length cm, .slice Ag b.go.length cg] 32))
    replace HOm := Aside.mk (owRow_alloc ow_mail HOm.out (.cells #[.int .i64 b.g, .string b.nm, .int .i64 b.t, .int .i64 b.b, .int .i64 b.nx, .slice Am b.ml.length cm, .slice Ag b.go.length cg] 32))
    replace HOg := Aside.mk (owRow_alloc ow_int HOg.out (.cells #[.int .i64 b.g, .string b.nm, .int .i64 b.t, .int .i64 b.b, .int .i64 b.nx, .slice Am b.ml.length cm, .slice Ag b.go.length cg] 32))
    have HN0 := HN
    replace HN := Aside.mk (HN.out.alloc (.cells #[.int .i64 b.g, .string b.nm, .int .i64 b.t, .int .i64 b.b, .int .i64 b.nx, .slice Am b.ml.length cm, .slice Ag b.go.length cg] 32))
    obtain ⟨B3, hB3⟩ : ∃ B3, B3 = w1.heap.size := ⟨_, rfl⟩
    have HB3 : Aside (w.heap.size + 2 ≤ B3 ∧ B3 ∉ D1 ++ D2) := ⟨by have := L1.out.lt; simp at this; omega, fun hx => by have := (HN0.out.2 _ hx).2; omega⟩
    rw [← hB3] at L3
    obtain ⟨w2, hw2⟩ : ∃ w2, w2 = w1.alloc (.cells #[.int .i64 b.g, .string b.nm, .int .i64 b.t, .int .i64 b.b, .int .i64 b.nx, .slice Am b.ml.length cm, .slice Ag b.go.length cg] 32) := ⟨_, rfl⟩
    rw [← hw2] at L0 L1 L3 HB HOm HOg HN
    have l3 := L3.out.cells
    have q3 := L3.out.lt
    have f1 := L1.out.free
    have f3 := L3.out.free
    clear l0 l1 q0 q1 HN0
    have l0 := L0.out.cells
    have l1 := L1.out.cells
    have q0 := L0.out.lt
    have q1 := L1.out.lt
    try rw [← hB3]
    try rw [← hw2]
    clear hB3 hw2
    go_wp2_with (first
      | (go_at_call 71; refine (specBoxOk_calls _ _ _ b (rdMails_mov HB.out HR.out) (rdInts_mov HB.out HG.out) HT.out.1 HT.out.2).mono ?_; rintro e w' ⟨rfl, hb⟩; replace L0 := Aside.mk (L0.out.below hb); replace L1 := Aside.mk (L1.out.below hb); replace L3 := Aside.mk (L3.out.below hb); replace HOm := Aside.mk (owRow_below ow_mail HOm.out hb); replace HOg := Aside.mk (owRow_below ow_int HOg.out hb); replace HN := Aside.mk (HN.out.mono hb.size); replace HB := Aside.mk (below_step HB.out hb); (try clear l0); (try clear q0); (try clear f0); (try clear l1); (try clear q1); (try clear f1); (try clear l3); (try clear q3); (try clear f3); have l0 := L0.out.cells; have q0 := L0.out.lt; have f0 := L0.out.free; have l1 := L1.out.cells; have q1 := L1.out.lt; have f1 := L1.out.free; have l3 := L3.out.cells; have q3 := L3.out.lt; have f3 := L3.out.free; clear hb)
      | (go_at_call 70; refine (specMailAt_calls _ _ _ b g (rdMails_mov HB.out HR.out) rfl).mono ?_; rintro e w' ⟨he, hb⟩; (try rw [HKK.out] at he); subst he; replace L0 := Aside.mk (L0.out.below hb); replace L1 := Aside.mk (L1.out.below hb); replace L3 := Aside.mk (L3.out.below hb); replace HOm := Aside.mk (owRow_below ow_mail HOm.out hb); replace HOg := Aside.mk (owRow_below ow_int HOg.out hb); replace HN := Aside.mk (HN.out.mono hb.size); replace HB := Aside.mk (below_step HB.out hb); (try clear l0); (try clear q0); (try clear f0); (try clear l1); (try clear q1); (try clear f1); (try clear l3); (try clear q3); (try clear f3); have l0 := L0.out.cells; have q0 := L0.out.lt; have f0 := L0.out.free; have l1 := L1.out.cells; have q1 := L1.out.lt; have f1 := L1.out.free; have l3 := L3.out.cells; have q3 := L3.out.lt; have f3 := L3.out.free; clear hb))
    clear h1 h3
    obtain ⟨g0, cy, xs, Dr, hv, hgD, hlc, hcm, hxl, hone, hcell, hel, hnd, hDr⟩ := owRow_rest ow_mail HOm.out HN.out.left.1 kk HLT.out
    injection hv with hv1 _ hv3
    subst hv1 hv3
    obtain ⟨n1, hn1⟩ : ∃ n1, kk + (b.ml.length - (kk + 1)) = n1 := ⟨_, rfl⟩
    have HN1 : Aside (n1 = b.ml.length - 1 ∧ (b.ml.eraseIdx kk).length = n1) := ⟨by have := HLT.out; omega, by rw [List.length_eraseIdx_of_lt HLT.out]; have := HLT.out; omega⟩
    have HN1K := Aside.mk hn1
    have hp0 : (0 : Int) ≤ (kk : Int) + 1 := by omega
    have hp1 : (kk : Int) + 1 ≤ (b.ml.length : Int) := by have := HLT.out; omega
    have hp2 : ((kk : Int) + 1).toNat = kk + 1 := by omega
    have hp3 : (kk : Int) ≤ (cm : Int) := by have := HLT.out; omega
    have hp4 : kk ≤ cm := by have := HLT.out; omega
    have HG0 : Aside (g0 < w'.heap.size ∧ B3 < w'.heap.size ∧ g0 ≠ B3) := ⟨(HN.out.2 g0 (by simp [hgD])).2, L3.out.lt, fun e => HB3.out.2 (by simp [← e, hgD])⟩
    obtain ⟨A, hA, hblk, hsrc⟩ : ∃ A : Addr, (if cm = kk + 1 then some (⟨g0, 0, none⟩ : Addr) else some ⟨g0, (kk + 1) * 4, none⟩) = some A ∧ Hid (A.block = g0) ∧ Hid (∀ t u, (xs.drop ((kk + 1) * 4))[t]? = some u → w'.cell? (A.add t) = some u) := by
      by_cases hc1 : cm = kk + 1
      · refine ⟨⟨g0, 0, none⟩, by simp [hc1], rfl, fun t u hu => ?_⟩
        have := (List.getElem?_eq_some_iff.1 hu).1
        rw [List.length_drop, hxl] at this
        omega
      · refine ⟨⟨g0, (kk + 1) * 4, none⟩, by simp [hc1], rfl, fun t u hu => ?_⟩
        rw [List.getElem?_drop] at hu
        rw [Addr.add_lit]
        exact hcell _ u hu
    have s1 : Hid ((xs.take (kk * 4)).length = kk * 4) := by show _ = _; have := HLT.out; rw [List.length_take, hxl]; omega
    have s2 : Hid (∀ u ∈ xs.take (kk * 4), u.oneCell' = true) := fun u hu => hone u (List.mem_of_mem_take hu)
    have s3 : Hid ((xs.drop ((kk + 1) * 4)).length = (b.ml.length - (kk + 1)) * 4) := by show _ = _; rw [List.length_drop, hxl]; omega
    have s4 : Hid (∀ u ∈ xs.drop ((kk + 1) * 4), u.oneCell' = true) := fun u hu => hone u (List.mem_of_mem_drop hu)
    have s5 : Hid (∀ t u, (xs.take (kk * 4))[t]? = some u → w'.cell? ((⟨g0, 0, none⟩ : Addr).add t) = some u) := fun t u hu => by
      have ht := (List.getElem?_eq_some_iff.1 hu).1
      rw [List.length_take] at ht
      rw [List.getElem?_take_of_lt (by omega)] at hu
      rw [add_zero_]
      exact hcell t u hu
    have HEL := Aside.mk hel
    have HDR := Aside.mk (And.intro hnd hDr)
    have HSM : Aside (b.ml.length ≤ 4000000) := ⟨hl4⟩
    clear hgD hlc hcm hxl hone hcell hel hnd hDr hn1
    go_wp2_with (fail)
    refine zBegin (S := (fun wq => Loc wq B3 #[.int .i64 b.g, .string b.nm, .int .i64 b.t, .int .i64 b.b, .int .i64 b.nx, .slice (some ⟨g0, 0, none⟩) b.ml.length cm, .slice Ag b.go.length cg] 32)) (z := 13) (by kernel_rfl) (by exact L3.out.drew') (fun hHeld => ?_)
    refine zT 1 28 hHeld ?_
    refine zT 2 29 hHeld ?_
    refine zT 3 30 hHeld ?_
    refine zT 4 31 hHeld ?_
    refine zT 6 33 hHeld ?_
    refine zT 7 34 hHeld ?_
    refine zT 8 35 hHeld ?_
    refine zT 9 36 hHeld ?_
    refine zT 10 37 hHeld ?_
    refine zReady (rs := [0]) (by kernel_rfl) (by simp) ?_
    refine zOne (by decide) rfl (fun K hK => ?_) zNil
    go_simp
    refine hK.out _ _ (by exact hHeld.alloc _) (fun hHeld => ?_)
    clear hK K
    (try simp only [Act.put, List.setIfInBounds_toArray, List.set_cons_zero, List.set_cons_succ])
    refine zReady (rs := [5]) (by kernel_rfl) (by simp) ?_
    refine zOne (by decide) rfl (fun K hK => ?_) zNil
    refine step_append_any el_mail rfl (.tmp 27) (.tmp 31) rfl (.slice (some ⟨w'.heap.size, 0, none⟩) 0 0) 0 [] (by simp [Act.eval, Act.put]) (own_lit0 _ _ _ _ (by simp)) ⟨g0, 0, none⟩ kk cm (xs.take (kk * 4)) (by simp [Act.eval, Act.put]) s1.out (fun t u hu => cell_b (below_alloc (below_drew (Below.refl _ w')) (.cells #[] 58)) (s5.out t u hu)) s2.out (by have := HLT.out; omega) kk (Nat.zero_add _) (by have := HLT.out; omega) (fun Ax cx w5 ho5 hg5 hat5 => ?_)
    refine hK.out _ _ (by exact hHeld.grown hg5 (by simp [Value.ownBlock]; have := HG0.out; omega)) (fun hHeld => ?_)
    clear hK K
    (try simp only [Act.put, List.setIfInBounds_toArray, List.set_cons_zero, List.set_cons_succ])
    have HO5 := Aside.mk ho5; have HG5 := Aside.mk hg5; have HAT5 := Aside.mk hat5; clear ho5 hg5 hat5
    refine zReady (rs := [11]) (by kernel_rfl) (by simp) ?_
    refine zOne (by decide) rfl (fun K hK => ?_) zNil
    refine step_append_any el_mail rfl (.tmp 32) (.tmp 37) rfl (.slice Ax kk cx) kk (xs.take (kk * 4)) (by simp [Act.eval, Act.put]) HO5.out A (b.ml.length - (kk + 1)) (cm - (kk + 1)) (xs.drop ((kk + 1) * 4)) (by simp [Act.eval, Act.put]) s3.out (fun t u hu => (HG5.out.cell_far (A.add t) (by rw [blk_add, hblk.out]; have := HG0.out; simp; omega) (by rw [blk_add, hblk.out]; simp [Value.ownBlock]; have := HG0.out; omega)).trans (cell_b (below_alloc (below_drew (Below.refl _ w')) (.cells #[] 58)) (hsrc.out t u hu))) s4.out (by have := HLT.out; have := HSM.out; omega) n1 HN1K.out (by have := HN1.out; have := HSM.out; omega) (fun Ay cy w6 ho6 hg6 hat6 => ?_)
    refine hK.out _ _ (by exact hHeld.grown hg6 (fun e => by rcases HAT5.out with h | h <;> rw [h] at e <;> simp [Value.ownBlock] at e <;> have := HG0.out <;> omega)) (fun hHeld => ?_)
    clear hK K
    (try simp only [Act.put, List.setIfInBounds_toArray, List.set_cons_zero, List.set_cons_succ])
    have HO6 := Aside.mk ho6; have HG6 := Aside.mk hg6; have HAT6 := Aside.mk hat6; clear ho6 hg6 hat6
    refine zT 12 39 hHeld ?_
    refine zReady (rs := [13]) (by kernel_rfl) (by simp) ?_
    refine zLast rfl (fun K hK => ?_) zNil
    have l3 := hHeld.cells; have q3 := hHeld.lt; have f3 := hHeld.free; go_simp
    refine hK.out _ _ ?_
    clear hK K
    (try simp only [Act.put, List.setIfInBounds_toArray, List.set_cons_zero, List.set_cons_succ])
    refine zDone (by kernel_rfl) ?_ _
    have HBX : Aside (Below w'.heap.size w' w6) := ⟨((below_alloc (below_drew (Below.refl _ w')) (.cells #[] 58)).grown HG5.out (by simp) (fun q hq => by simp [Value.ownBlock] at hq; omega)).grown HG6.out (by have := HG5.out.size; simp at this; omega) (fun q hq => by rcases HAT5.out with h | h <;> rw [h] at hq <;> simp [Value.ownBlock] at hq <;> omega)⟩
    obtain ⟨gz, hgz, hz1, hz2⟩ : ∃ gz, (Value.slice Ay n1 cy).ownBlock = some gz ∧ w'.heap.size ≤ gz ∧ gz < w6.heap.size := by
      rcases HAT6.out with h | h
      · rcases HAT5.out with h5 | h5
        · have h7 := h.trans h5
          exact ⟨_, h7, by simp, (HO6.out.lt _ h7).2⟩
        · have h7 := h.trans h5
          exact ⟨_, h7, by simp, (HO6.out.lt _ h7).2⟩
      · exact ⟨_, h, by have := HG5.out.size; simp at this; omega, (HO6.out.lt _ h).2⟩
    obtain ⟨D', hD'⟩ : ∃ D', D' = gz :: Dr := ⟨_, rfl⟩
    have hlow : ∀ x ∈ Dr, wz.heap.size ≤ x ∧ x < w'.heap.size := fun x hx => HN.out.2 x (by simp [(HDR.out.2 x hx).1])
    have hzw : wz.heap.size ≤ w'.heap.size := by have := HZ.out; have := HB3.out.1; have := HG0.out.2.1; omega
    have HOM6 : Aside (owMails w6 D' (.slice Ay n1 cy) (b.ml.eraseIdx kk)) := ⟨⟨_, Dr, by rw [HN1.out.2]; exact HO6.out, by rw [hD', hgz]; rfl, owEl_imp HEL.out fun E1 cs x hs _ hR => ow_mail.mov hR fun q hq => HBX.out.block q (hlow q (hs q hq)).2⟩⟩
    have HN3 : Aside (New wz w6 D') := ⟨by rw [hD']; exact ⟨List.nodup_cons.2 ⟨fun hx => by have := (hlow _ hx).2; omega, HDR.out.1⟩, fun x hx => by
      rcases List.mem_cons.1 hx with rfl | hx
      · exact ⟨by omega, hz2⟩
      · have h8 := hlow x hx; have h9 := HBX.out.size; exact ⟨h8.1, by omega⟩⟩⟩
    have HB3' : Aside (w.heap.size + 2 ≤ B3 ∧ B3 ∉ D') := ⟨HB3.out.1, fun hx => by
      rw [hD'] at hx
      rcases List.mem_cons.1 hx with e | hx
      · have := HG0.out.2.1; omega
      · exact HB3.out.2 (by simp [(HDR.out.2 _ hx).1])⟩
    replace L0 := Aside.mk (L0.out.below HBX.out)
    replace L1 := Aside.mk (L1.out.below HBX.out)
    replace L3 := Aside.mk (L3.out.below HBX.out)
    replace HB := Aside.mk (below_step HB.out HBX.out)
    have HOm := HOM6
    clear hHeld HOM6 HO5 HG5 HAT5 HO6 HG6 HAT6 HEL HDR HBX hgz hz1 hz2 hD' hlow hzw hA hblk hsrc s1 s2 s3 s4 s5 HOg HN HB3 l0 l1 l3 q0 q1 q3 f1 f3 hp0 hp1 hp2 hp3 hp4
    have l0 := L0.out.cells
    have q0 := L0.out.lt
    have l1 := L1.out.cells
    have q1 := L1.out.lt
    have f1 := L1.out.free
    have l3 := L3.out.cells
    have q3 := L3.out.lt
    have f3 := L3.out.free
    go_wp2_with (fail)
    have L3b : Aside (Loc (w6.setCell ⟨B3, 5, none⟩ (.slice Ay n1 cy)) B3 #[.int .i64 b.g, .string b.nm, .int .i64 b.t, .int .i64 b.b, .int .i64 b.nx, .slice Ay n1 cy, .slice Ag b.go.length cg] 32) := ⟨L3.out.put 5 (.slice Ay n1 cy)⟩
    replace L0 := Aside.mk (L0.out.set (p := ⟨B3, 5, none⟩) (by show w.heap.size ≠ B3; have := HB3'.out.1; omega) (.slice Ay n1 cy))
    replace L1 := Aside.mk (L1.out.set (p := ⟨B3, 5, none⟩) (by show w.heap.size + 1 ≠ B3; have := HB3'.out.1; omega) (.slice Ay n1 cy))
    replace HOm := Aside.mk (owRow_set ow_mail HOm.out (p := ⟨B3, 5, none⟩) HB3'.out.2 (.slice Ay n1 cy))
    replace HB := Aside.mk (below_set HB.out (p := ⟨B3, 5, none⟩) (by show w.heap.size ≤ B3; have := HB3'.out.1; omega) (.slice Ay n1 cy))
    replace HN3 := Aside.mk (HN3.out.set ⟨B3, 5, none⟩ (.slice Ay n1 cy))
    have hcon := l06Put_calls _ _ b.go g (rdInts_mov HB.out HG.out) hl5
    rw [HAG.out] at hcon
    refine hcon.mono ?_
    clear hcon
    rintro e w4 ⟨v4, Dg, rfl, hog, hng, hb⟩
    obtain ⟨An, cn, rfl⟩ := cell_own ow_int hog
    have HOg := Aside.mk hog
    have HN : Aside (New wz w4 (D' ++ Dg)) := ⟨New.app HN3.out (by have := HB.out.size; have := HZ.out; have := L1.out.lt; simp at *; omega) hng hb.size⟩
    have HB3 : Aside (w.heap.size + 2 ≤ B3 ∧ B3 ∉ D' ∧ B3 ∉ Dg) := ⟨HB3'.out.1, HB3'.out.2, fun hx => by have := (hng.2 _ hx).1; have := L3b.out.lt; omega⟩
    replace L0 := Aside.mk (L0.out.below hb)
    replace L1 := Aside.mk (L1.out.below hb)
    replace L3 := Aside.mk (L3b.out.below hb)
    replace HOm := Aside.mk (owRow_below ow_mail HOm.out hb)
    replace HB := Aside.mk (below_step HB.out hb)
    clear hog hng hb L3b HN3 HB3' l0 l1 l3 q0 q1 q3 f1 f3
    have l0 := L0.out.cells
    have q0 := L0.out.lt
    have l1 := L1.out.cells
    have q1 := L1.out.lt
    have f1 := L1.out.free
    have l3 := L3.out.cells
    have q3 := L3.out.lt
    have f3 := L3.out.free
    have HOF := Aside.mk (owRow_set ow_mail HOm.out (p := ⟨B3, 6, none⟩) HB3.out.2.1 (.slice An ag.length cn))
    have HOG := Aside.mk (owRow_set ow_int HOg.out (p := ⟨B3, 6, none⟩) HB3.out.2.2 (.slice An ag.length cn))
    have hne1 : w.heap.size + 1 ≠ B3 := by have := HB3.out.1; omega
    have hne2 : B3 ≠ w.heap.size + 1 := fun e => hne1 e.symm
    clear e1 hq0 hq1 hq2 hq3 hl4 hl5 hm l0 q0
    go_wp2
    have hB3w : w.heap.size ≤ B3 := by have := HB3.out.1; omega
    refine bodyPost_ret (v := .tuple #[.agg #[.int .i64 b.g, .string b.nm, .int .i64 b.t, .int .i64 b.b, .int .i64 b.nx, .slice Ay n1 cy, .slice An ag.length cn], .bool true]) (by simp [results, go_sem, l1, l3, q1, q3]) rfl ?_
    rw [HE.out]
    have HDm : Aside (∀ x ∈ D', w.heap.size + 2 ≤ x) := ⟨fun x hx => by have := (HN.out.2 x (by simp [hx])).1; have := HZ.out; omega⟩
    have HDg : Aside (∀ x ∈ Dg, w.heap.size + 2 ≤ x) := ⟨fun x hx => by have := (HN.out.2 x (by simp [hx])).1; have := HZ.out; omega⟩
    have HN0 := Aside.mk (HN.out.from (w0 := w) (by have := HZ.out; omega))
    refine ⟨_, _, D' ++ Dg, rfl, ⟨_, _, D', Dg, rfl, rfl, ?_, ?_⟩, ?_, ?_⟩
    · (repeat (first | (with_reducible exact HOF.out) | (with_reducible refine owRow_far ow_mail (w.heap.size + 2) ?_ HDm.out (by first | omega | (dsimp only; omega) | (simp; done) | (simp; omega)) _) | (with_reducible refine owRow_alloc ow_mail ?_ _)))
    · (repeat (first | (with_reducible exact HOG.out) | (with_reducible refine owRow_far ow_int (w.heap.size + 2) ?_ HDg.out (by first | omega | (dsimp only; omega) | (simp; done) | (simp; omega)) _) | (with_reducible refine owRow_alloc ow_int ?_ _)))
    · (repeat (first | (with_reducible exact HN0.out) | (with_reducible refine New.set ?_ _ _) | (with_reducible refine New.alloc ?_ _) | (with_reducible refine New.drew ?_)))
    · (repeat (first | (with_reducible exact HB.out) | (with_reducible exact Below.refl _ _) | (with_reducible refine below_set ?_ (by first | omega | (dsimp only; omega) | (simp; done) | (simp; omega)) _) | (with_reducible refine below_alloc ?_ _) | (with_reducible refine below_drewN ?_ _) | (with_reducible refine below_drew ?_)))
  all_goals
    have HE : Aside (takeOut b g = (b, false)) := ⟨by unfold takeOut; simp [*]; try omega⟩
    have HKK : Aside (mailAt b.ml g = mailAt b.ml g) := ⟨rfl⟩
    (try have h40 := (box_gone h1).2)
    (try have h41 : (40 : Int) ≤ (b.go.length : Int) := by omega)
    go_enter Try.func12, Try.ntmps12
    go_wp2_with (fail)
    refine (l06Copy_calls _ _ _ b (rdMails_mov (by (repeat (first | (with_reducible exact HB.out) | (with_reducible exact Below.refl _ _) | (with_reducible refine below_set ?_ (by first | omega | (dsimp only; omega) | (simp; done) | (simp; omega)) _) | (with_reducible refine below_alloc ?_ _) | (with_reducible refine below_drewN ?_ _) | (with_reducible refine below_drew ?_)))) HR.out) (rdInts_mov (by (repeat (first | (with_reducible exact HB.out) | (with_reducible exact Below.refl _ _) | (with_reducible refine below_set ?_ (by first | omega | (dsimp only; omega) | (simp; done) | (simp; omega)) _) | (with_reducible refine below_alloc ?_ _) | (with_reducible refine below_drewN ?_ _) | (with_reducible refine below_drew ?_)))) HG.out) HL.out).mono ?_
    rintro e w1 ⟨mx, gx, D, rfl, ho, hn, hb⟩
    obtain ⟨Am, cm, Ag, cg, D1, D2, rfl, rfl, rfl, hom, hog⟩ := box_parts ho
    have L0 := Aside.mk (((Loc.new w #[.int .i64 b.g, .string b.nm, .int .i64 b.t, .int .i64 b.b, .int .i64 b.nx, .slice A0 b.ml.length c0, .slice A1 b.go.length c1] 32).alloc (.cells #[.int .i64 0, .string ⟨#[]⟩, .int .i64 0, .int .i64 0, .int .i64 0, .slice none 0 0, .slice none 0 0] 32)).below hb)
    have L1 := Aside.mk ((Loc.new1 w (.cells #[.int .i64 b.g, .string b.nm, .int .i64 b.t, .int .i64 b.b, .int .i64 b.nx, .slice A0 b.ml.length c0, .slice A1 b.go.length c1] 32) #[.int .i64 0, .string ⟨#[]⟩, .int .i64 0, .int .i64 0, .int .i64 0, .slice none 0 0, .slice none 0 0] 32).below hb)
    have HB := Aside.mk (below_step (w0 := w) (by (repeat (first | (with_reducible exact HB.out) | (with_reducible exact Below.refl _ _) | (with_reducible refine below_set ?_ (by first | omega | (dsimp only; omega) | (simp; done) | (simp; omega)) _) | (with_reducible refine below_alloc ?_ _) | (with_reducible refine below_drewN ?_ _) | (with_reducible refine below_drew ?_)))) hb)
    have HOm := Aside.mk hom
    have HOg := Aside.mk hog
    have HN : Aside (New wz w1 (D1 ++ D2)) := ⟨hn.from (by have := HZ.out; simp; omega)⟩
    clear ho hom hog hn hb
    have l0 := L0.out.cells
    have l1 := L1.out.cells
    have q0 := L0.out.lt
    have q1 := L1.out.lt
    go_wp2_with (fail)
    replace L0 := Aside.mk (L0.out.alloc (.cells #[.int .i64 b.g, .string b.nm, .int .i64 b.t, .int .i64 b.b, .int .i64 b.nx, .slice Am b.ml.length cm, .slice Ag b.go.length cg] 32))
    replace L1 := Aside.mk (L1.out.alloc (.cells #[.int .i64 b.g, .string b.nm, .int .i64 b.t, .int .i64 b.b, .int .i64 b.nx, .slice Am b.ml.length cm, .slice Ag b.go.length cg] 32))
    have L3 := Aside.mk (Loc.new w1 #[.int .i64 b.g, .string b.nm, .int .i64 b.t, .int .i64 b.b, .int .i64 b.nx, .slice Am b.ml.length cm, .slice Ag b.go.length cg] 32)
    replace HB := Aside.mk (below_alloc HB.out (.cells #[.int .i64 b.g, .string b.nm, .int .i64 b.t, .int .i64 b.b, .int .i64 b.nx, .slice Am b.ml.length cm, .slice Ag b.go.length cg] 32))
    replace HOm := Aside.mk (owRow_alloc ow_mail HOm.out (.cells #[.int .i64 b.g, .string b.nm, .int .i64 b.t, .int .i64 b.b, .int .i64 b.nx, .slice Am b.ml.length cm, .slice Ag b.go.length cg] 32))
    replace HOg := Aside.mk (owRow_alloc ow_int HOg.out (.cells #[.int .i64 b.g, .string b.nm, .int .i64 b.t, .int .i64 b.b, .int .i64 b.nx, .slice Am b.ml.length cm, .slice Ag b.go.length cg] 32))
    have HN0 := HN
    replace HN := Aside.mk (HN.out.alloc (.cells #[.int .i64 b.g, .string b.nm, .int .i64 b.t, .int .i64 b.b, .int .i64 b.nx, .slice Am b.ml.length cm, .slice Ag b.go.length cg] 32))
    obtain ⟨B3, hB3⟩ : ∃ B3, B3 = w1.heap.size := ⟨_, rfl⟩
    have HB3 : Aside (w.heap.size + 2 ≤ B3 ∧ B3 ∉ D1 ++ D2) := ⟨by have := L1.out.lt; simp at this; omega, fun hx => by have := (HN0.out.2 _ hx).2; omega⟩
    rw [← hB3] at L3
    obtain ⟨w2, hw2⟩ : ∃ w2, w2 = w1.alloc (.cells #[.int .i64 b.g, .string b.nm, .int .i64 b.t, .int .i64 b.b, .int .i64 b.nx, .slice Am b.ml.length cm, .slice Ag b.go.length cg] 32) := ⟨_, rfl⟩
    rw [← hw2] at L0 L1 L3 HB HOm HOg HN
    have l3 := L3.out.cells
    have q3 := L3.out.lt
    have f1 := L1.out.free
    have f3 := L3.out.free
    clear l0 l1 q0 q1 HN0
    have l0 := L0.out.cells
    have l1 := L1.out.cells
    have q0 := L0.out.lt
    have q1 := L1.out.lt
    try rw [← hB3]
    try rw [← hw2]
    clear hB3 hw2
    go_wp2_with (first
      | (go_at_call 71; refine (specBoxOk_calls _ _ _ b (rdMails_mov HB.out HR.out) (rdInts_mov HB.out HG.out) HT.out.1 HT.out.2).mono ?_; rintro e w' ⟨rfl, hb⟩; replace L0 := Aside.mk (L0.out.below hb); replace L1 := Aside.mk (L1.out.below hb); replace L3 := Aside.mk (L3.out.below hb); replace HOm := Aside.mk (owRow_below ow_mail HOm.out hb); replace HOg := Aside.mk (owRow_below ow_int HOg.out hb); replace HN := Aside.mk (HN.out.mono hb.size); replace HB := Aside.mk (below_step HB.out hb); (try clear l0); (try clear q0); (try clear f0); (try clear l1); (try clear q1); (try clear f1); (try clear l3); (try clear q3); (try clear f3); have l0 := L0.out.cells; have q0 := L0.out.lt; have f0 := L0.out.free; have l1 := L1.out.cells; have q1 := L1.out.lt; have f1 := L1.out.free; have l3 := L3.out.cells; have q3 := L3.out.lt; have f3 := L3.out.free; clear hb)
      | (go_at_call 70; refine (specMailAt_calls _ _ _ b g (rdMails_mov HB.out HR.out) rfl).mono ?_; rintro e w' ⟨he, hb⟩; (try rw [HKK.out] at he); subst he; replace L0 := Aside.mk (L0.out.below hb); replace L1 := Aside.mk (L1.out.below hb); replace L3 := Aside.mk (L3.out.below hb); replace HOm := Aside.mk (owRow_below ow_mail HOm.out hb); replace HOg := Aside.mk (owRow_below ow_int HOg.out hb); replace HN := Aside.mk (HN.out.mono hb.size); replace HB := Aside.mk (below_step HB.out hb); (try clear l0); (try clear q0); (try clear f0); (try clear l1); (try clear q1); (try clear f1); (try clear l3); (try clear q3); (try clear f3); have l0 := L0.out.cells; have q0 := L0.out.lt; have f0 := L0.out.free; have l1 := L1.out.cells; have q1 := L1.out.lt; have f1 := L1.out.free; have l3 := L3.out.cells; have q3 := L3.out.lt; have f3 := L3.out.free; clear hb))
    refine bodyPost_ret (v := .tuple #[.agg #[.int .i64 b.g, .string b.nm, .int .i64 b.t, .int .i64 b.b, .int .i64 b.nx, .slice Am b.ml.length cm, .slice Ag b.go.length cg], .bool false]) (by simp [results, go_sem, l1, l3, q1, q3]) rfl ?_
    rw [HE.out]
    have HDm : Aside (∀ x ∈ D1, w.heap.size + 2 ≤ x) := ⟨fun x hx => by have := (HN.out.2 x (by simp [hx])).1; have := HZ.out; omega⟩
    have HDg : Aside (∀ x ∈ D2, w.heap.size + 2 ≤ x) := ⟨fun x hx => by have := (HN.out.2 x (by simp [hx])).1; have := HZ.out; omega⟩
    have HN0 := Aside.mk (HN.out.from (w0 := w) (by have := HZ.out; omega))
    refine ⟨_, _, D1 ++ D2, rfl, ⟨_, _, D1, D2, rfl, rfl, ?_, ?_⟩, ?_, ?_⟩
    · (repeat (first | (with_reducible exact HOm.out) | (with_reducible refine owRow_far ow_mail (w.heap.size + 2) ?_ HDm.out (by first | omega | (dsimp only; omega) | (simp; done) | (simp; omega)) _) | (with_reducible refine owRow_alloc ow_mail ?_ _)))
    · (repeat (first | (with_reducible exact HOg.out) | (with_reducible refine owRow_far ow_int (w.heap.size + 2) ?_ HDg.out (by first | omega | (dsimp only; omega) | (simp; done) | (simp; omega)) _) | (with_reducible refine owRow_alloc ow_int ?_ _)))
    · (repeat (first | (with_reducible exact HN0.out) | (with_reducible refine New.set ?_ _ _) | (with_reducible refine New.alloc ?_ _) | (with_reducible refine New.drew ?_)))
    · (repeat (first | (with_reducible exact HB.out) | (with_reducible exact Below.refl _ _) | (with_reducible refine below_set ?_ (by first | omega | (dsimp only; omega) | (simp; done) | (simp; omega)) _) | (with_reducible refine below_alloc ?_ _) | (with_reducible refine below_drewN ?_ _) | (with_reducible refine below_drew ?_)))
end Go.Proofs.Ytjfjpabfkembcaa.H
