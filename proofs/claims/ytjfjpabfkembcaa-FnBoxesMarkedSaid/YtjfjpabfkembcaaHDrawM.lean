/- The first steps of a draw: a byte, a number below another: the walks. What is drawn is told by its bounds alone. Drawn stamps and registers: the walks. Drawn stamps and registers of whatever kind: the walks. A drawn register of whatever kind: the walk. Drawn flags: the walks. Drawn flags of whatever kind: the walks. Drawn texts of mails: the walks. -/
import Derived.Test.YtjfjpabfkembcaaHCur
import Derived.Test.YtjfjpabfkembcaaHCopyBox
import Derived.Test.YtjfjpabfkembcaaHSnoc
namespace Go.Proofs.Ytjfjpabfkembcaa.H
open Go.RowKit
set_option linter.unusedVariables false
set_option linter.unusedSimpArgs false
/-! The first steps of a draw: a byte, a number below another: the walks. What is drawn is told by its bounds alone. -/
theorem cur_h {w : World} {A : Option Addr} {C c i : Nat} {code : List Int} {h : Int} (hl : Loc w C #[.slice A code.length c, .int .i64 i, .int .i64 h] 175) (g : Int) :
    Loc (w.setCell ⟨C, 2, none⟩ (.int .i64 g)) C #[.slice A code.length c, .int .i64 i, .int .i64 g] 175 := hl.put 2 _
theorem cur_i {w : World} {A : Option Addr} {C c i : Nat} {code : List Int} {h : Int} (hl : Loc w C #[.slice A code.length c, .int .i64 i, .int .i64 h] 175) (j : Nat) :
    Loc (w.setCell ⟨C, 1, none⟩ (.int .i64 j)) C #[.slice A code.length c, .int .i64 j, .int .i64 h] 175 := hl.put 1 _
theorem Keep.drew1 {D : List Nat} {w w' : World} (h : Keep D w w') : Keep D w w'.drew := h.trans (Keep.of_below (below_drew (Below.refl _ _)))
theorem Loc.drewN {w : World} {b : Nat} {cs : Array Value} {t : TypeId} (h : Loc w b cs t) (n : Nat) : Loc (w.drewN n) b cs t := h
theorem went_of {W w w' : World} {A : Option Addr} {C c i : Nat} {code : List Int} {h : Int} (hl : Loc w' C #[.slice A code.length c, .int .i64 i, .int .i64 h] 175) (hs : W.heap.size ≤ C)
    (hr : rdBytes W (.slice A code.length c) code) (hi : i ≤ code.length) (hb : Below W.heap.size W w) (hlt : C < w.heap.size) (hk : Keep [C] w w') : Went W w w' C :=
  ⟨⟨A, c, code, i, h, hl, hs, hr, hi, hb.trans (hk.below (by simpa using hs) hb.size)⟩, hk, hlt⟩
set_option maxHeartbeats 2000000 in
set_option maxRecDepth 100000 in
theorem l01Byte_calls (W w : World) (C : Nat) (hc : HasCur W w C) :
    Calls Try.prog 113 #[.pointer (some ⟨C, 0, none⟩)] w fun e w' => ∃ x : Int, e = .returned (.int .i64 x) ∧ 0 ≤ x ∧ x ≤ 255 ∧ Went W w w' C := by
  obtain ⟨A, c, code, i, h, hl, hs, hr, hi, hb⟩ := hc
  obtain ⟨_, _, _, _, hm⟩ := rd_len hr
  have HL := Aside.mk hl
  have HS := Aside.mk hs
  have HR := Aside.mk hr
  have HB := Aside.mk hb
  have l0 := hl.cells
  have q0 := hl.lt
  have f0 := hl.free
  by_cases hlt : i < code.length
  · obtain ⟨ad, rfl, x0⟩ := rdBytes_at hr i hlt
    have hlw := World.block_lt_of_cell? W _ x0
    have x1 : w.cell? (ad.add i) = some (.int .u8 code[i]) := (hb.cell hlw).trans x0
    have hne : (ad.add i).block ≠ C := by omega
    have x2 := fun u => cell_far2 x1 (p := ⟨C, 2, none⟩) hne u
    generalize code[i] = y at x0 x1 x2
    have x3 := fun (n : Nat) u => (show ((w.drewN n).setCell ⟨C, 2, none⟩ u).cell? (ad.add i) = some (.int .u8 y) from x2 u)
    have p0 : (0 : Int) ≤ (i : Int) := by omega
    have p1 : (i : Int) < (code.length : Int) := by omega
    clear hl hs hr hb x0 x1 hne hlw
    go_enter Try.func113, Try.ntmps113
    go_wp2
    repeat (go_quiet (fail); try go_wp2)
    go_ret
    refine ⟨_, rfl, (and255 _).1, (and255 _).2, ?_⟩
    refine went_of (i := i + 1) (h := wrap64 (wrap64 (h * 6364136223846793005) + 1442695040888963407)) ?_ HS.out HR.out (by omega) HB.out q0 ?_
    · exact cur_i (Loc.drewN (cur_h HL.out _) _) (i + 1)
    · (repeat (first | (with_reducible exact Keep.refl _ _) | (with_reducible refine Keep.set ?_ (by simp) _) | (with_reducible refine Keep.drewN ?_ _) | (with_reducible refine Keep.drew1 ?_) | (with_reducible refine Keep.alloc ?_ _)))
  · have p1 : ¬ ((i : Int) < (code.length : Int)) := by omega
    clear hl hs hr hb
    go_enter Try.func113, Try.ntmps113
    go_wp2
    repeat (go_quiet (fail); try go_wp2)
    go_ret
    refine ⟨_, rfl, (and255 _).1, (and255 _).2, ?_⟩
    refine went_of (h := wrap64 (wrap64 (h * 6364136223846793005) + 1442695040888963407)) ?_ HS.out HR.out hi HB.out q0 ?_
    · exact Loc.drewN (cur_h HL.out _) 0
    · (repeat (first | (with_reducible exact Keep.refl _ _) | (with_reducible refine Keep.set ?_ (by simp) _) | (with_reducible refine Keep.drewN ?_ _) | (with_reducible refine Keep.drew1 ?_) | (with_reducible refine Keep.alloc ?_ _)))
set_option maxHeartbeats 2000000 in
set_option maxRecDepth 100000 in
theorem l01Below_calls (W w : World) (C : Nat) (n : Int) (hc : HasCur W w C) :
    Calls Try.prog 114 #[.pointer (some ⟨C, 0, none⟩), .int .i64 n] w fun e w' => ∃ x : Int, e = .returned (.int .i64 x) ∧ 0 ≤ x ∧ (n ≤ 0 → x = 0) ∧ (0 < n → x < n) ∧ Went W w w' C := by
  have HW := Aside.mk (Went.refl hc)
  clear hc
  by_cases h1 : n ≤ 0
  · go_enter Try.func114, Try.ntmps114
    go_wp2
    go_ret
    exact ⟨0, rfl, by omega, fun _ => rfl, fun h => by omega, HW.out⟩
  · have hn0 : ¬ n = 0 := by omega
    by_cases h2 : n ≤ 256
    · go_enter Try.func114, Try.ntmps114
      go_wp2_with (go_at_call 113; refine (l01Byte_calls W _ C HW.out.1).mono ?_; rintro e w1 ⟨x, rfl, hx0, hx1, hw⟩; replace HW := Aside.mk (HW.out.trans hw); clear hw)
      go_ret
      exact ⟨_, rfl, Int.emod_nonneg _ hn0, fun h => by omega, fun h => Int.emod_lt_of_pos _ h, HW.out⟩
    · go_enter Try.func114, Try.ntmps114
      go_wp2_with (fail)
      refine (l01Byte_calls W _ C HW.out.1).mono ?_
      rintro e w1 ⟨x, rfl, hx0, hx1, hw⟩
      replace HW := Aside.mk (HW.out.trans hw)
      clear hw
      go_wp2_with (fail)
      refine (l01Byte_calls W _ C HW.out.1).mono ?_
      rintro e w2 ⟨y, rfl, hy0, hy1, hw⟩
      replace HW := Aside.mk (HW.out.trans hw)
      clear hw
      go_wp2_with (fail)
      refine (l01Byte_calls W _ C HW.out.1).mono ?_
      rintro e w3 ⟨z, rfl, hz0, hz1, hw⟩
      replace HW := Aside.mk (HW.out.trans hw)
      clear hw
      go_wp2_with (fail)
      refine (l01Byte_calls W _ C HW.out.1).mono ?_
      rintro e w4 ⟨u, rfl, hu0, hu1, hw⟩
      replace HW := Aside.mk (HW.out.trans hw)
      clear hw
      go_wp2
      go_ret
      exact ⟨_, rfl, Int.emod_nonneg _ hn0, fun h => by omega, fun h => Int.emod_lt_of_pos _ h, HW.out⟩
/-! Drawn stamps and registers: the walks. -/
set_option maxHeartbeats 2000000 in
set_option maxRecDepth 100000 in
theorem l01New_calls (w : World) (A : Option Addr) (c : Nat) (code : List Int) (h : rdBytes w (.slice A code.length c) code) :
    Calls Try.prog 112 #[.slice A code.length c] w fun e w' => ∃ C : Nat, e = .returned (.pointer (some ⟨C, 0, none⟩)) ∧ HasCur w w' C ∧ Below w.heap.size w w' := by
  obtain ⟨_, _, _, _, hm⟩ := rd_len h
  have HR := Aside.mk h
  clear h
  go_enter Try.func112, Try.ntmps112
  go_wp2
  go_loopw [3, 4] (fun v3 v4 wr => ∃ (i : Nat) (h : Int), i ≤ code.length ∧ v4 = .int .i64 i ∧ v3 = .int .i64 h ∧ Aside (Below w.heap.size w wr)) (fun _ v4 _ => code.length - (intOf v4).toNat)
  case atStart => exact ⟨0, _, Nat.zero_le _, rfl, rfl, ⟨Below.refl _ _⟩⟩
  case round =>
    obtain ⟨i, h, hi, rfl, rfl, HB⟩ := hrel
    by_cases hlt : i < code.length
    · by_cases h4 : (i : Int) < 4000
      · obtain ⟨ad, rfl, x0⟩ := rdBytes_at (rdBytes_mov HB.out HR.out) i hlt
        generalize code[i] = y at x0
        have p0 : (0 : Int) ≤ (i : Int) := by omega
        have p1 : (i : Int) < (code.length : Int) := by omega
        go_wp2
        go_roundw
        case rel => exact ⟨i + 1, _, by omega, by go_num, rfl, HB⟩
        case measure => simp [intOf]; omega
      · have p1 : (i : Int) < (code.length : Int) := by omega
        go_wp2
        go_ret
        exact ⟨_, rfl, ⟨A, c, code, 0, h, Loc.new _ _ _, HB.out.size, HR.out, Nat.zero_le _, by (repeat (first | (with_reducible exact HB.out) | (with_reducible exact Below.refl _ _) | (with_reducible refine below_set ?_ (by first | omega | (dsimp only; omega) | (simp; done) | (simp; omega)) _) | (with_reducible refine below_alloc ?_ _) | (with_reducible refine below_drewN ?_ _) | (with_reducible refine below_drew ?_)))⟩, by (repeat (first | (with_reducible exact HB.out) | (with_reducible exact Below.refl _ _) | (with_reducible refine below_set ?_ (by first | omega | (dsimp only; omega) | (simp; done) | (simp; omega)) _) | (with_reducible refine below_alloc ?_ _) | (with_reducible refine below_drewN ?_ _) | (with_reducible refine below_drew ?_)))⟩
    · have p1 : ¬ ((i : Int) < (code.length : Int)) := by omega
      go_wp2
      go_ret
      exact ⟨_, rfl, ⟨A, c, code, 0, h, Loc.new _ _ _, HB.out.size, HR.out, Nat.zero_le _, by (repeat (first | (with_reducible exact HB.out) | (with_reducible exact Below.refl _ _) | (with_reducible refine below_set ?_ (by first | omega | (dsimp only; omega) | (simp; done) | (simp; omega)) _) | (with_reducible refine below_alloc ?_ _) | (with_reducible refine below_drewN ?_ _) | (with_reducible refine below_drew ?_)))⟩, by (repeat (first | (with_reducible exact HB.out) | (with_reducible exact Below.refl _ _) | (with_reducible refine below_set ?_ (by first | omega | (dsimp only; omega) | (simp; done) | (simp; omega)) _) | (with_reducible refine below_alloc ?_ _) | (with_reducible refine below_drewN ?_ _) | (with_reducible refine below_drew ?_)))⟩
set_option maxHeartbeats 2000000 in
set_option maxRecDepth 100000 in
theorem l01PickInt_calls (W w : World) (C : Nat) (A : Option Addr) (c : Nat) (l : List Int) (hc : HasCur W w C) (h : rdInts w (.slice A l.length c) l) (hA : ∀ ad, A = some ad → ad.block ≠ C) (hl : 0 < l.length) :
    Calls Try.prog 174 #[.pointer (some ⟨C, 0, none⟩), .slice A l.length c] w fun e w' => ∃ x : Int, e = .returned (.int .i64 x) ∧ x ∈ l ∧ Went W w w' C := by
  obtain ⟨_, _, _, _, hm⟩ := rd_len h
  have HC := Aside.mk hc
  have HR := Aside.mk h
  have HA := Aside.mk hA
  clear hc h hA
  go_enter Try.func174, Try.ntmps174
  go_wp2_with (fail)
  refine (l01Below_calls W _ C _ HC.out).mono ?_
  rintro e w1 ⟨x, rfl, hx0, _, hx1, hw⟩
  obtain ⟨k, rfl⟩ := Int.eq_ofNat_of_zero_le hx0
  have hk : k < l.length := by have := hx1 (by omega); omega
  obtain ⟨ad, rfl, x0⟩ := rdInts_at HR.out k hk
  have x1 := cell_went x0 hw (by rw [blk_add]; exact HA.out ad rfl)
  have HM : Aside (l[k] ∈ l) := ⟨List.getElem_mem hk⟩
  generalize l[k] = y at x0 x1 HM
  have HW := Aside.mk hw
  have p1 : (k : Int) < (l.length : Int) := by omega
  clear hw x0 hx1
  go_wp2
  go_ret
  exact ⟨_, rfl, HM.out, HW.out⟩
set_option maxHeartbeats 2000000 in
set_option maxRecDepth 100000 in
theorem l03Stamp_calls (W w : World) (C : Nat) (hc : HasCur W w C) :
    Calls Try.prog 167 #[.pointer (some ⟨C, 0, none⟩)] w fun e w' => ∃ t b : Int, e = .returned (.agg #[.int .i64 t, .int .i64 b]) ∧ 0 ≤ t ∧ t < 12 ∧ 1 ≤ b ∧ b ≤ 2 ∧ Went W w w' C := by
  have HL := Aside.mk hc.lt
  have HW := Aside.mk (Went.refl hc)
  clear hc
  go_enter Try.func167, Try.ntmps167
  go_wp2_with (fail)
  replace HW := Aside.mk (HW.out.alloc (.cells #[.int .i64 0, .int .i64 0] 29))
  have L0 := Aside.mk (Loc.new w #[.int .i64 0, .int .i64 0] 29)
  refine (l01Below_calls W _ C _ HW.out.1).mono ?_
  rintro e w1 ⟨t, rfl, ht0, _, ht1, hw⟩
  replace ht1 := ht1 (by decide)
  replace L0 := Aside.mk (L0.out.went hw (by have := HL.out; omega))
  replace HW := Aside.mk (HW.out.trans hw)
  clear hw
  go_wp2_with (fail)
  refine (l01Below_calls W _ C _ HW.out.1).mono ?_
  rintro e w2 ⟨b, rfl, hb0, _, hb1, hw⟩
  replace hb1 := hb1 (by decide)
  replace L0 := Aside.mk (L0.out.went hw (by have := HL.out; omega))
  replace HW := Aside.mk (HW.out.trans hw)
  clear hw
  have l0 := L0.out.cells
  have q0 := L0.out.lt
  have f0 := L0.out.free
  go_wp2
  refine bodyPost_ret (v := .agg #[.int .i64 t, .int .i64 (1 + b)]) (by simp [results, go_sem, l0, q0]) rfl ⟨t, 1 + b, rfl, ht0, ht1, by omega, by omega, ?_⟩
  (repeat (first | (with_reducible exact HW.out) | (with_reducible refine Went.set ?_ (by first | omega | (dsimp only; omega) | (simp; done) | (simp; omega) | (have h1_ := HQ1.out; dsimp only; omega) | (have h1_ := HQ1.out; have h2_ := HQ2.out; dsimp only; omega)) _) | (with_reducible refine Went.alloc ?_ _) | (with_reducible refine Went.drewN ?_ _) | (with_reducible refine Went.drew ?_)))
/-! Drawn stamps and registers of whatever kind: the walks. -/
set_option maxHeartbeats 2000000 in
set_option maxRecDepth 100000 in
theorem l03Any_calls (W w : World) (C : Nat) (hc : HasCur W w C) :
    Calls Try.prog 128 #[.pointer (some ⟨C, 0, none⟩)] w fun e w' => ∃ t b : Int, e = .returned (.agg #[.int .i64 t, .int .i64 b]) ∧ Went W w w' C := by
  have HL := Aside.mk hc.lt
  have HW := Aside.mk (Went.refl hc)
  clear hc
  go_enter Try.func128, Try.ntmps128
  go_wp2_with (fail)
  replace HW := Aside.mk (HW.out.alloc (.cells #[.int .i64 0, .int .i64 0] 29))
  have L0 := Aside.mk (Loc.new w #[.int .i64 0, .int .i64 0] 29)
  refine (l03Stamp_calls W _ C HW.out.1).mono ?_
  rintro e w1 ⟨t, b, rfl, _, _, _, _, hw⟩
  replace L0 := Aside.mk (L0.out.went hw (by have := HL.out; (try have := HQ1.out); (try have := HQ2.out); (try have := HQ3.out); omega)); replace HW := Aside.mk (HW.out.trans hw); clear hw; (try clear l0); (try clear q0); (try clear f0); have l0 := L0.out.cells; have q0 := L0.out.lt; have f0 := L0.out.free
  have HQ1 : Aside (w.heap.size < w1.heap.size) := ⟨q0⟩
  clear l0 q0 f0
  go_wp2_with (fail)
  replace HW := Aside.mk (HW.out.alloc (.cells #[.int .i64 t, .int .i64 b] 29))
  replace L0 := Aside.mk (L0.out.alloc (.cells #[.int .i64 t, .int .i64 b] 29))
  have L1 := Aside.mk (Loc.new w1 #[.int .i64 t, .int .i64 b] 29)
  refine (l01Below_calls W _ C _ HW.out.1).mono ?_
  rintro e w2 ⟨k, rfl, hk0, _, hk1, hw⟩
  replace L0 := Aside.mk (L0.out.went hw (by have := HL.out; (try have := HQ1.out); (try have := HQ2.out); (try have := HQ3.out); omega)); replace L1 := Aside.mk (L1.out.went hw (by have := HL.out; (try have := HQ1.out); (try have := HQ2.out); (try have := HQ3.out); omega)); replace HW := Aside.mk (HW.out.trans hw); clear hw; (try clear l0); (try clear q0); (try clear f0); (try clear l1); (try clear q1); (try clear f1); have l0 := L0.out.cells; have q0 := L0.out.lt; have f0 := L0.out.free; have l1 := L1.out.cells; have q1 := L1.out.lt; have f1 := L1.out.free
  have HQ2 : Aside (w1.heap.size < w2.heap.size) := ⟨q1⟩
  have hne : w.heap.size ≠ w1.heap.size := by have := HQ1.out; omega
  clear hk0 hk1
  by_cases hk : k = 0
  · subst hk
    go_wp2_with (fail)
    replace HW := Aside.mk (HW.out.alloc (.cells #[.int .i64 (-1), .int .i64 100000, .int .i64 100001] 3))
    replace L0 := Aside.mk (L0.out.alloc (.cells #[.int .i64 (-1), .int .i64 100000, .int .i64 100001] 3))
    replace L1 := Aside.mk (L1.out.alloc (.cells #[.int .i64 (-1), .int .i64 100000, .int .i64 100001] 3))
    refine (l01PickInt_calls W _ C _ _ [-1, 100000, 100001] HW.out.1 (rdInts_lit w2 _ rfl [-1, 100000, 100001] (by decide) 3) (fun ad e => by injection e with e; subst e; show w2.heap.size ≠ C; have := HL.out; have := HQ2.out; omega) (by decide)).mono ?_
    rintro e w3 ⟨x, rfl, _, hw⟩
    replace L0 := Aside.mk (L0.out.went hw (by have := HL.out; (try have := HQ1.out); (try have := HQ2.out); (try have := HQ3.out); omega)); replace L1 := Aside.mk (L1.out.went hw (by have := HL.out; (try have := HQ1.out); (try have := HQ2.out); (try have := HQ3.out); omega)); replace HW := Aside.mk (HW.out.trans hw); clear hw; (try clear l0); (try clear q0); (try clear f0); (try clear l1); (try clear q1); (try clear f1); have l0 := L0.out.cells; have q0 := L0.out.lt; have f0 := L0.out.free; have l1 := L1.out.cells; have q1 := L1.out.lt; have f1 := L1.out.free
    go_wp2
    refine bodyPost_ret (v := .agg #[.int .i64 x, .int .i64 b]) (by simp [results, go_sem, l0, q0, l1, q1]) rfl ⟨_, _, rfl, ?_⟩
    (repeat (first | (with_reducible exact HW.out) | (with_reducible refine Went.set ?_ (by first | omega | (dsimp only; omega) | (simp; done) | (simp; omega) | (have h1_ := HQ1.out; dsimp only; omega) | (have h1_ := HQ1.out; have h2_ := HQ2.out; dsimp only; omega)) _) | (with_reducible refine Went.alloc ?_ _) | (with_reducible refine Went.drewN ?_ _) | (with_reducible refine Went.drew ?_)))
  · by_cases hk1 : k = 1
    · subst hk1
      clear hk
      go_wp2_with (fail)
      replace HW := Aside.mk (HW.out.alloc (.cells #[.int .i64 (-1), .int .i64 0, .int .i64 3] 3))
      replace L0 := Aside.mk (L0.out.alloc (.cells #[.int .i64 (-1), .int .i64 0, .int .i64 3] 3))
      replace L1 := Aside.mk (L1.out.alloc (.cells #[.int .i64 (-1), .int .i64 0, .int .i64 3] 3))
      refine (l01PickInt_calls W _ C _ _ [-1, 0, 3] HW.out.1 (rdInts_lit w2 _ rfl [-1, 0, 3] (by decide) 3) (fun ad e => by injection e with e; subst e; show w2.heap.size ≠ C; have := HL.out; have := HQ2.out; omega) (by decide)).mono ?_
      rintro e w3 ⟨x, rfl, _, hw⟩
      replace L0 := Aside.mk (L0.out.went hw (by have := HL.out; (try have := HQ1.out); (try have := HQ2.out); (try have := HQ3.out); omega)); replace L1 := Aside.mk (L1.out.went hw (by have := HL.out; (try have := HQ1.out); (try have := HQ2.out); (try have := HQ3.out); omega)); replace HW := Aside.mk (HW.out.trans hw); clear hw; (try clear l0); (try clear q0); (try clear f0); (try clear l1); (try clear q1); (try clear f1); have l0 := L0.out.cells; have q0 := L0.out.lt; have f0 := L0.out.free; have l1 := L1.out.cells; have q1 := L1.out.lt; have f1 := L1.out.free
      go_wp2
      refine bodyPost_ret (v := .agg #[.int .i64 t, .int .i64 x]) (by simp [results, go_sem, l0, q0, l1, q1]) rfl ⟨_, _, rfl, ?_⟩
      (repeat (first | (with_reducible exact HW.out) | (with_reducible refine Went.set ?_ (by first | omega | (dsimp only; omega) | (simp; done) | (simp; omega) | (have h1_ := HQ1.out; dsimp only; omega) | (have h1_ := HQ1.out; have h2_ := HQ2.out; dsimp only; omega)) _) | (with_reducible refine Went.alloc ?_ _) | (with_reducible refine Went.drewN ?_ _) | (with_reducible refine Went.drew ?_)))
    · go_wp2
      refine bodyPost_ret (v := .agg #[.int .i64 t, .int .i64 b]) (by simp [results, go_sem, l0, q0, l1, q1]) rfl ⟨_, _, rfl, ?_⟩
      (repeat (first | (with_reducible exact HW.out) | (with_reducible refine Went.set ?_ (by first | omega | (dsimp only; omega) | (simp; done) | (simp; omega) | (have h1_ := HQ1.out; dsimp only; omega) | (have h1_ := HQ1.out; have h2_ := HQ2.out; dsimp only; omega)) _) | (with_reducible refine Went.alloc ?_ _) | (with_reducible refine Went.drewN ?_ _) | (with_reducible refine Went.drew ?_)))
/-! A drawn register of whatever kind: the walk. -/
set_option maxHeartbeats 2000000 in
set_option maxRecDepth 100000 in
theorem l03Reg_calls (W w : World) (C : Nat) (hc : HasCur W w C) :
    Calls Try.prog 175 #[.pointer (some ⟨C, 0, none⟩)] w fun e w' => ∃ r : Reg, e = .returned (.agg #[.int .i64 r.v, .int .i64 r.t, .int .i64 r.b]) ∧ Went W w w' C := by
  have HL := Aside.mk hc.lt
  have HW := Aside.mk (Went.refl hc)
  clear hc
  go_enter Try.func175, Try.ntmps175
  go_wp2_with (fail)
  replace HW := Aside.mk (HW.out.alloc (.cells #[.int .i64 0, .int .i64 0, .int .i64 0] 136))
  have L0 := Aside.mk (Loc.new w #[.int .i64 0, .int .i64 0, .int .i64 0] 136)
  refine (l03Any_calls W _ C HW.out.1).mono ?_
  rintro e w1 ⟨t, b, rfl, hw⟩
  replace L0 := Aside.mk (L0.out.went hw (by have := HL.out; (try have := HQ1.out); (try have := HQ2.out); (try have := HQ3.out); omega)); replace HW := Aside.mk (HW.out.trans hw); clear hw; (try clear l0); (try clear q0); (try clear f0); have l0 := L0.out.cells; have q0 := L0.out.lt; have f0 := L0.out.free
  have HQ1 : Aside (w.heap.size < w1.heap.size) := ⟨q0⟩
  clear l0 q0 f0
  have HW1 := Aside.mk (HW.out.alloc (.cells #[.int .i64 t, .int .i64 b] 29))
  have L01 := Aside.mk (L0.out.alloc (.cells #[.int .i64 t, .int .i64 b] 29))
  have L1 := Aside.mk (Loc.new w1 #[.int .i64 t, .int .i64 b] 29)
  go_wp2
  refine zBegin (S := (fun w' => Loc w' w.heap.size #[.int .i64 0, .int .i64 0, .int .i64 0] 136 ∧ Loc w' w1.heap.size #[.int .i64 t, .int .i64 b] 29 ∧ Aside (Went W w w' C))) (z := 5) (by kernel_rfl) (by exact ⟨L01.out.drew', L1.out.drew', ⟨HW1.out.drew⟩⟩) (fun hHeld => ?_)
  refine zT 0 6 hHeld ?_
  refine zT 3 9 hHeld ?_
  refine zReady (rs := [1]) (by kernel_rfl) (by simp) ?_
  refine zOne (by decide) rfl (fun K hK => ?_) zNil
  go_simp
  refine hK.out _ _ (by exact ⟨hHeld.1.alloc _, hHeld.2.1.alloc _, ⟨hHeld.2.2.out.alloc _⟩⟩) (fun hHeld => ?_)
  clear hK K
  (try simp only [Act.put, List.setIfInBounds_toArray, List.set_cons_zero, List.set_cons_succ])
  refine zReady (rs := [2]) (by kernel_rfl) (by simp) ?_
  refine zOne (by decide) rfl (fun K hK => ?_) zNil
  go_simp
  refine (l01PickInt_calls W _ C _ _ [0, 1, 1, 7, -1, 1000000001] hHeld.2.2.out.1 (rdInts_lit (w1.alloc (.cells #[.int .i64 t, .int .i64 b] 29)).drew (w1.heap.size + 1) (by simp) [0, 1, 1, 7, -1, 1000000001] (by decide) 3) (fun ad e => by injection e with e; subst e; have := HL.out; have := HQ1.out; simp; omega) (by decide)).mono ?_; rintro e w3 ⟨x, rfl, _, hw⟩
  refine hK.out _ _ (by exact ⟨hHeld.1.went hw (by have := HL.out; omega), hHeld.2.1.went hw (by have := HL.out; have := HQ1.out; omega), ⟨hHeld.2.2.out.trans hw⟩⟩) (fun hHeld => ?_)
  clear hK K
  (try simp only [Act.put, List.setIfInBounds_toArray, List.set_cons_zero, List.set_cons_succ])
  clear hw; have l0 := hHeld.1.cells; have f0 := hHeld.1.free; have q0 := hHeld.1.lt; have HW2 := hHeld.2.2; have L02 := Aside.mk hHeld.1
  refine zT 4 10 hHeld ?_
  refine zReady (rs := [5]) (by kernel_rfl) (by simp) ?_
  refine zLast rfl (fun K hK => ?_) zNil
  go_simp
  refine hK.out _ _ ?_
  clear hK K
  (try simp only [Act.put, List.setIfInBounds_toArray, List.set_cons_zero, List.set_cons_succ])
  refine zDone (by kernel_rfl) ?_ _
  go_wp2
  refine bodyPost_ret (v := .agg #[.int .i64 x, .int .i64 t, .int .i64 b]) (by simp [results, go_sem, l0, q0]) rfl ⟨⟨x, t, b⟩, rfl, ?_⟩
  (repeat (first | (with_reducible exact HW2.out) | (with_reducible refine Went.set ?_ (by first | omega | (dsimp only; omega) | (simp; done) | (simp; omega) | (have h1_ := HQ1.out; dsimp only; omega) | (have h1_ := HQ1.out; have h2_ := HQ2.out; dsimp only; omega)) _) | (with_reducible refine Went.alloc ?_ _) | (with_reducible refine Went.drewN ?_ _) | (with_reducible refine Went.drew ?_)))
/-! Drawn flags: the walks. -/
def flagDrawn (r : Reg) : Prop := 0 ≤ r.v ∧ r.v < 2 ∧ 0 ≤ r.t ∧ r.t < 12 ∧ 1 ≤ r.b ∧ r.b ≤ 2
theorem New.offC {w0 w : World} {D : List Nat} {C : Nat} (h : New w0 w D) (hC : C < w0.heap.size) : C ∉ D := fun hx => by have := (h.2 C hx).1; omega
set_option maxHeartbeats 2000000 in
set_option maxRecDepth 100000 in
theorem l04Flags_calls (W w : World) (C : Nat) (hc : HasCur W w C) :
    Calls Try.prog 124 #[.pointer (some ⟨C, 0, none⟩)] w fun e w' => ∃ v D l, e = .returned v ∧ owRegs w' D v l ∧ New w w' D ∧ l.length = 3 ∧ (∀ r ∈ l, flagDrawn r) ∧ Went W w w' C := by
  have HL := Aside.mk hc.lt
  have HW := Aside.mk (Went.refl hc)
  clear hc
  go_enter Try.func124, Try.ntmps124
  go_wp2
  go_loopw [3, 4, 5] (fun v3 v4 _ wr => ∃ (i : Nat) (Av : Option Addr) (nv cv : Nat) (D : List Nat) (l : List Reg), i ≤ 3 ∧ v4 = .int .i64 i ∧ v3 = .slice Av nv cv ∧ l.length = i ∧ Aside (owRegs wr D (.slice Av nv cv) l) ∧ Aside (New w wr D) ∧ Aside (∀ r ∈ l, flagDrawn r) ∧ Aside (Went W w wr C)) (fun _ v4 _ _ => 3 - (intOf v4).toNat)
  case atStart => exact ⟨0, _, _, _, [w.heap.size], [], by omega, rfl, rfl, rfl, ⟨owRow_lit0 w _ rfl⟩, ⟨new_lit0 w w _ _ rfl (Nat.le_refl _)⟩, ⟨by simp⟩, ⟨HW.out.alloc _⟩⟩
  case round =>
    clear HW
    obtain ⟨i, Av, nv, cv, D, l, hi, rfl, rfl, hl, HO, HN, HF, HW⟩ := hrel
    by_cases hlt : i < 3
    · have HLE := Aside.mk hl
      clear hl
      go_wp2_with (fail)
      refine (l03Stamp_calls W _ C HW.out.1).mono ?_
      rintro e w1 ⟨t, b, rfl, ht0, ht1, hb0, hb1, hw⟩
      replace HO := Aside.mk (owRow_went ow_reg HO.out hw (HN.out.offC HL.out))
      replace HN := Aside.mk (HN.out.mono hw.size)
      replace HW := Aside.mk (HW.out.trans hw)
      have HQ1 : Aside (w.heap.size ≤ w1.heap.size) := ⟨HW.out.size⟩
      clear hw
      go_wp2
      refine zBegin (S := (fun w' => Loc w' w1.heap.size #[.int .i64 t, .int .i64 b] 29 ∧ Aside (Went W w w' C))) (z := 8) (by kernel_rfl) (by exact ⟨(Loc.new w1 _ _).drew', ⟨(HW.out.alloc _).drew⟩⟩) (fun hHeld => ?_)
      refine zT 0 13 hHeld ?_
      refine zT 1 14 hHeld ?_
      refine zT 3 16 hHeld ?_
      refine zReady (rs := [2]) (by kernel_rfl) (by simp) ?_
      refine zOne (by decide) rfl (fun K hK => ?_) zNil
      go_simp
      refine (l01Below_calls W _ C _ hHeld.2.out.1).mono ?_; rintro e w2 ⟨x, rfl, hx0, _, hx1, hw⟩; have HO2 := Aside.mk (owRow_went ow_reg (owRow_below ow_reg HO.out (below_drew (below_alloc (Below.refl _ w1) (.cells #[.int .i64 t, .int .i64 b] 29)))) hw (HN.out.offC HL.out)); have HN2 := Aside.mk ((HN.out.alloc (.cells #[.int .i64 t, .int .i64 b] 29)).mono hw.size)
      refine hK.out _ _ (by exact ⟨hHeld.1.went hw (by have := HL.out; have := HQ1.out; omega), ⟨hHeld.2.out.trans hw⟩⟩) (fun hHeld => ?_)
      clear hK K
      (try simp only [Act.put, List.setIfInBounds_toArray, List.set_cons_zero, List.set_cons_succ])
      clear hw
      refine zT 4 17 hHeld ?_
      refine zReady (rs := [5]) (by kernel_rfl) (by simp) ?_
      refine zOne (by decide) rfl (fun K hK => ?_) zNil
      go_simp
      refine hK.out _ _ (by exact ⟨hHeld.1.alloc _, ⟨hHeld.2.out.alloc _⟩⟩) (fun hHeld => ?_)
      clear hK K
      (try simp only [Act.put, List.setIfInBounds_toArray, List.set_cons_zero, List.set_cons_succ])
      refine zReady (rs := [6]) (by kernel_rfl) (by simp) ?_
      refine zOne (by decide) rfl (fun K hK => ?_) zNil
      refine step_snoc el_reg ow_reg (owRow_alloc ow_reg HO2.out (.cells #[.int .i64 x, .int .i64 t, .int .i64 b] 136)) (w0 := w) (y := (⟨x, t, b⟩ : Reg)) (Dx := []) (cs := [.int .i64 x, .int .i64 t, .int .i64 b]) ⟨rfl, rfl⟩ (by rw [List.append_nil]; exact HN2.out.alloc _) (by have := hHeld.2.out.size; exact this) (.tmp 13) (.tmp 18) (by rfl) (by rfl) (by rfl) w2.heap.size (by rfl) (Loc.new w2 _ _) (by have := HLE.out; omega) (by have := HLE.out; omega) (w2.heap.size + 1) (by simp) (fun g cap w' D' hk1 hk2 hk3 hk => ?_)
      refine hK.out _ _ (by exact ⟨hHeld.1.keep hk (fun hx => by have := (HN.out.2 _ hx).2; omega), ⟨hHeld.2.out.keep hk (fun b hb => (HN2.out.2 b hb).1)⟩⟩) (fun hHeld => ?_)
      clear hK K
      (try simp only [Act.put, List.setIfInBounds_toArray, List.set_cons_zero, List.set_cons_succ])
      refine zT 7 3 hHeld ?_
      refine zDone (by kernel_rfl) ?_ _
      have HO3 := Aside.mk hk1
      have HN3 := Aside.mk hk2
      have HF3 : Aside (∀ r ∈ l ++ [(⟨x, t, b⟩ : Reg)], flagDrawn r) := ⟨fun r hr => by
        rw [List.mem_append, List.mem_singleton] at hr
        rcases hr with hr | rfl
        · exact HF.out r hr
        · exact ⟨hx0, hx1 (by decide), ht0, ht1, hb0, hb1⟩⟩
      have HW3 := hHeld.2
      clear hHeld hk1 hk2 hk3 hk
      go_wp2
      go_roundw
      case rel => exact ⟨i + 1, _, _, _, _, _, by omega, by go_num, rfl, by have := HLE.out; simp; omega, HO3, HN3, HF3, HW3⟩
      case measure => simp [intOf]; omega
    · go_wp2
      go_ret
      exact ⟨_, D, l, rfl, HO.out, HN.out, by omega, HF.out, HW.out⟩
set_option maxHeartbeats 2000000 in
set_option maxRecDepth 100000 in
theorem drawFlags_calls (w : World) (A : Option Addr) (c : Nat) (code : List Int) (h : rdBytes w (.slice A code.length c) code) :
    Calls Try.prog 41 #[.slice A code.length c] w fun e w' => ∃ va Da la vb Db lb vc Dc lc, e = .returned (.tuple #[va, vb, vc]) ∧ (owRegs w' Da va la ∧ la.length = 3 ∧ ∀ r ∈ la, flagDrawn r) ∧ (owRegs w' Db vb lb ∧ lb.length = 3 ∧ ∀ r ∈ lb, flagDrawn r) ∧
      (owRegs w' Dc vc lc ∧ lc.length = 3 ∧ ∀ r ∈ lc, flagDrawn r) ∧ Below w.heap.size w w' := by
  have HR := Aside.mk h
  clear h
  go_enter Try.func41, Try.ntmps41
  go_wp2_with (fail)
  refine (l01New_calls _ A c code HR.out).mono ?_
  rintro e w1 ⟨C, rfl, hc, hb⟩
  have HB := Aside.mk hb
  have HC := Aside.mk hc
  have HCg := Aside.mk hc.ge
  clear hb hc
  go_wp2_with (fail)
  refine (l04Flags_calls w _ C HC.out).mono ?_
  rintro e w2 ⟨va, Da, la, rfl, hoa, hna, hla, hfa, hw⟩
  have HOa := Aside.mk hoa
  have HNa := Aside.mk hna
  have HFa := Aside.mk (And.intro hla hfa)
  have HW := Aside.mk hw
  clear hoa hna hla hfa hw
  go_wp2_with (fail)
  refine (l04Flags_calls w _ C HW.out.1).mono ?_
  rintro e w3 ⟨vb, Db, lb, rfl, hob, hnb, hlb, hfb, hw⟩
  have HOb := Aside.mk hob
  have HNb := Aside.mk hnb
  have HFb := Aside.mk (And.intro hlb hfb)
  replace HOa := Aside.mk (owRow_went ow_reg HOa.out hw (HNa.out.offC HC.out.lt))
  replace HNa := Aside.mk (HNa.out.mono hw.size)
  have hlt2 := HW.out.1.lt
  replace HW := Aside.mk (HW.out.trans hw)
  clear hob hnb hlb hfb hw
  go_wp2_with (fail)
  refine (l04Flags_calls w _ C HW.out.1).mono ?_
  rintro e w4 ⟨vc, Dc, lc, rfl, hoc, hnc, hlc, hfc, hw⟩
  have HOc := Aside.mk hoc
  have HFc := Aside.mk (And.intro hlc hfc)
  replace HOa := Aside.mk (owRow_went ow_reg HOa.out hw (HNa.out.offC HC.out.lt))
  replace HOb := Aside.mk (owRow_went ow_reg HOb.out hw (HNb.out.offC hlt2))
  replace HW := Aside.mk (HW.out.trans hw)
  clear hoc hnc hlc hfc hw hlt2
  go_wp2
  refine bodyPost_ret (v := .tuple #[va, vb, vc]) (by simp [results, go_sem]) rfl ?_
  exact ⟨va, Da, la, vb, Db, lb, vc, Dc, lc, rfl, ⟨HOa.out, HFa.out⟩, ⟨HOb.out, HFb.out⟩, ⟨HOc.out, HFc.out⟩, HW.out.low HB.out HCg.out⟩
set_option maxHeartbeats 2000000 in
set_option maxRecDepth 100000 in
theorem drawPlaces_calls (w : World) (A : Option Addr) (c : Nat) (code : List Int) (h : rdBytes w (.slice A code.length c) code) :
    Calls Try.prog 34 #[.slice A code.length c] w fun e w' => ∃ v l, e = .returned v ∧ rdInts w' v l ∧ l.length = 12 ∧ (∀ x ∈ l, 0 ≤ x ∧ x < 10000) ∧ Below w.heap.size w w' := by
  have HR := Aside.mk h
  clear h
  go_enter Try.func34, Try.ntmps34
  go_wp2_with (fail)
  refine (l01New_calls _ A c code HR.out).mono ?_
  rintro e w1 ⟨C, rfl, hc, hb⟩
  have HB := Aside.mk hb
  have HL := Aside.mk hc.lt
  have HCg := Aside.mk hc.ge
  have HW := Aside.mk (Went.refl hc)
  clear hb hc
  go_wp2_with (fail)
  refine (l01Byte_calls w _ C HW.out.1).mono ?_
  rintro e w2 ⟨x, rfl, _, _, hw⟩
  replace HW := Aside.mk (HW.out.trans hw)
  clear hw
  go_wp2
  go_loopw [4, 5] (fun v4 v5 wr => ∃ (i : Nat) (Av : Option Addr) (nv cv : Nat) (D : List Nat) (l : List Int), i ≤ 12 ∧ v5 = .int .i64 i ∧ v4 = .slice Av nv cv ∧ l.length = i ∧ Aside (owInts wr D (.slice Av nv cv) l) ∧ Aside (New w1 wr D) ∧ Aside (∀ x ∈ l, 0 ≤ x ∧ x < 10000) ∧ Aside (Went w w1 wr C)) (fun _ v5 _ => 12 - (intOf v5).toNat)
  case atStart => exact ⟨0, _, _, _, [w2.heap.size], [], by omega, rfl, rfl, rfl, ⟨owRow_lit0 w2 _ rfl⟩, ⟨new_lit0 w1 w2 _ _ rfl HW.out.size⟩, ⟨by simp⟩, ⟨HW.out.alloc _⟩⟩
  case round =>
    clear HW
    obtain ⟨i, Av, nv, cv, D, l, hi, rfl, rfl, hl, HO, HN, HF, HW⟩ := hrel
    by_cases hlt : i < 12
    · have HLE := Aside.mk hl
      clear hl
      go_wp2_with (fail)
      refine (l01Below_calls w _ C _ HW.out.1).mono ?_
      rintro e w3 ⟨y, rfl, hy0, _, hy1, hw⟩
      replace HO := Aside.mk (owRow_went ow_int HO.out hw (HN.out.offC HL.out))
      replace HN := Aside.mk (HN.out.mono hw.size)
      replace HW := Aside.mk (HW.out.trans hw)
      clear hw
      go_wp2_with (at_builtin; refine list_snoc el_int ow_int (owRow_alloc ow_int HO.out (.cells #[.int .i64 y] 3)) (w0 := w1) (y := y) (Dx := []) (cs := [.int .i64 y]) ⟨rfl, rfl⟩ (by rw [List.append_nil]; exact HN.out.alloc _) (by have := HW.out.size; simp; omega) (.tmp 15) (.tmp 18) (by rfl) (by rfl) (by rfl) w3.heap.size (by rfl) (Loc.new w3 _ _) (by have := HLE.out; omega) (by have := HLE.out; omega) (w3.heap.size + 1) (by simp) (fun g cap w' D' hk1 hk2 hk3 hk => ?_); have HO3 := Aside.mk hk1; have HN3 := Aside.mk hk2; have HW3 := Aside.mk ((HW.out.alloc (.cells #[.int .i64 y] 3)).keep hk (fun b hb => (HN.out.2 b hb).1)); clear hk1 hk2 hk3 hk)
      have HF3 : Aside (∀ r ∈ l ++ [y], 0 ≤ r ∧ r < 10000) := ⟨fun r hr => by
        rw [List.mem_append, List.mem_singleton] at hr
        rcases hr with hr | rfl
        · exact HF.out r hr
        · exact ⟨hy0, hy1 (by decide)⟩⟩
      go_roundw
      case rel => exact ⟨i + 1, _, _, _, _, _, by omega, by go_num, rfl, by have := HLE.out; simp; omega, HO3, HN3, HF3, HW3⟩
      case measure => simp [intOf]; omega
    · go_wp2
      go_ret
      exact ⟨_, l, rfl, owRow_rd ow_int HO.out, by omega, HF.out, HW.out.low HB.out HCg.out⟩
/-! Drawn flags of whatever kind: the walks. -/
theorem ow_form {α : Type} {e sz : Nat} {R : World → List Nat → List Value → α → Prop} {w : World} {D : List Nat} {v : Value} {l : List α} (h : owRow e sz R w D v l) (hl : 0 < l.length) : ∃ g cap, v = .slice (some ⟨g, 0, none⟩) l.length cap ∧ g ∈ D := by
  have hin := fun k hk => own_in h (k := k) hk
  obtain ⟨xs, Di, h1, _⟩ := h
  obtain ⟨g, cap, rfl, _⟩ := h1.form hl
  exact ⟨g, cap, rfl, hin g rfl⟩
/-- What is left behind the first element. -/
theorem rd_tail {α : Type} {sz : Nat} {K : World → List Value → α → Prop} {w : World} {ad : Addr} {c : Nat} {x : α} {l : List α} (h : rdRow sz K w (.slice (some ad) (l.length + 1) c) (x :: l)) :
    rdRow sz K w (.slice (some (ad.add sz)) l.length (c - 1)) l := by
  obtain ⟨A, c', e, h1, h2, _, h3⟩ := h
  injection e with e1 e2 e3
  subst e1 e3
  simp only [List.length_cons] at h1 h2
  refine ⟨_, _, rfl, by omega, by omega, (fun h => by cases h), fun i y hy => ?_⟩
  obtain ⟨ad', cs, e, hk, hc⟩ := h3 (i + 1) y (by simpa using hy)
  injection e with e
  subst e
  refine ⟨_, cs, rfl, hk, fun j u hu => ?_⟩
  have := hc j u hu
  rw [show ((ad.add sz).add (i * sz + j)) = ad.add ((i + 1) * sz + j) from ?_]
  · exact this
  · rw [Nat.succ_mul, show i * sz + sz + j = sz + (i * sz + j) by omega]
    unfold Addr.add
    by_cases h1 : sz = 0
    · simp [h1]
    · by_cases h2 : i * sz + j = 0
      · simp [h1, h2]
      · simp [h1, h2, Nat.add_assoc]
        intro h3 h4
        exact h2 (by rw [h3, h4])
theorem Rests.imp {D : List Nat} {w : World} {K K' : World → Prop} (h : Rests D w K) (hi : ∀ w, K w → K' w) : Rests D w K' := fun w' hw' => hi w' (h w' hw')
set_option maxHeartbeats 2000000 in
set_option maxRecDepth 100000 in
theorem l04Any_calls (W w : World) (C : Nat) (hc : HasCur W w C) :
    Calls Try.prog 129 #[.pointer (some ⟨C, 0, none⟩)] w fun e w' => ∃ v D l, e = .returned v ∧ Rests D w' (fun w => rdRegs w v l) ∧ New w w' D ∧ l.length ≤ 4 ∧ Went W w w' C := by
  have HL := Aside.mk hc.lt
  have HW := Aside.mk (Went.refl hc)
  clear hc
  go_enter Try.func129, Try.ntmps129
  go_wp2_with (fail)
  refine (l01Below_calls W _ C _ HW.out.1).mono ?_
  rintro e w1 ⟨k, rfl, hk0, _, hk1, hw⟩
  replace HW := Aside.mk (HW.out.trans hw)
  clear hw
  go_wp2_with (fail)
  refine (l04Flags_calls W _ C HW.out.1).mono ?_
  rintro e w2 ⟨v, D, l, rfl, ho, hn, hl, _, hw⟩
  obtain ⟨g, cap, rfl, hg⟩ := ow_form ho (by omega)
  have HO := Aside.mk ho
  have HN := Aside.mk (hn.from (w0 := w) HW.out.size)
  have HG := Aside.mk hg
  have HLE := Aside.mk hl
  replace HW := Aside.mk (HW.out.trans hw)
  clear hw ho hn hg hk0 hk1 hl
  by_cases h0 : k = 0
  · subst h0
    go_wp2_with (at_builtin; refine list_snoc el_reg ow_reg (owRow_alloc ow_reg HO.out (.cells #[.int .i64 0, .int .i64 0, .int .i64 0] 136)) (w0 := w) (y := (⟨0, 0, 0⟩ : Reg)) (Dx := []) (cs := [.int .i64 0, .int .i64 0, .int .i64 0]) ⟨rfl, rfl⟩ (by rw [List.append_nil]; exact HN.out.alloc _) (by have := HW.out.size; simp; omega) (.tmp 12) (.tmp 14) (by rfl) (by rfl) (by rfl) w2.heap.size (by rfl) (Loc.new w2 _ _) (by have := HLE.out; omega) (by have := HLE.out; omega) (w2.heap.size + 1) (by simp) (fun g2 cap2 w' D' hk1 hk2 hk3 hk => ?_); have HO3 := Aside.mk hk1; have HN3 := Aside.mk hk2; have HW3 := Aside.mk ((HW.out.alloc (.cells #[.int .i64 0, .int .i64 0, .int .i64 0] 136)).keep hk (fun b hb => (HN.out.2 b hb).1)); clear hk1 hk2 hk3 hk)
    go_ret
    exact ⟨_, _, _, rfl, Rests.of_ow ow_reg HO3.out, HN3.out, by have := HLE.out; simp; omega, HW3.out⟩
  · by_cases h1 : k = 1
    · subst h1
      clear h0
      match l, HLE, HO with
      | a :: l2, HLE, HO =>
        have hl2 : l2.length = 2 := by have := HLE.out; simpa using this
        have hc1 : ¬ cap = 1 := by
          obtain ⟨A', c2, e2, h1, _⟩ := rd_len (owRow_rd ow_reg HO.out)
          injection e2 with _ _ e3
          simp only [List.length_cons] at h1
          omega
        go_wp2
        go_ret
        refine ⟨_, D, l2, rfl, (Rests.of_ow ow_reg HO.out).imp fun w h => ?_, HN.out, by omega, HW.out⟩
        have := rd_tail (show rdRegs w (.slice (some ⟨g, 0, none⟩) (l2.length + 1) cap) (a :: l2) from h)
        rw [hl2] at this
        exact this
    · by_cases h2 : k = 2
      · subst h2
        clear h0 h1
        go_wp2_with (fail)
        refine (l01Below_calls W _ C _ HW.out.1).mono ?_
        rintro e w3 ⟨k, rfl, hk0, _, hk1, hw⟩
        obtain ⟨i, rfl⟩ := Int.eq_ofNat_of_zero_le hk0
        have hi : i < 3 := by have := hk1 (by decide); omega
        clear hk0 hk1
        replace HO := Aside.mk (owRow_went ow_reg HO.out hw (HN.out.offC HL.out))
        replace HN := Aside.mk (HN.out.mono hw.size)
        replace HW := Aside.mk (HW.out.trans hw)
        clear hw
        go_wp2_with (fail)
        refine (l03Reg_calls W _ C HW.out.1).mono ?_
        rintro e w4 ⟨r, rfl, hw⟩
        replace HO := Aside.mk (owRow_went ow_reg HO.out hw (HN.out.offC HL.out))
        replace HN := Aside.mk (HN.out.mono hw.size)
        replace HW := Aside.mk (HW.out.trans hw)
        clear hw
        obtain ⟨g', c', hv, hg1, hg2, hcell, hfr, F⟩ := owRow_put ow_reg HO.out HN.out i (by have := HLE.out; omega) (by decide) HW.out.size
        injection hv with hv1 _ hv2
        injection hv1 with hv1
        injection hv1 with hv1
        subst hv1 hv2
        obtain ⟨u0, x0⟩ := hcell 0 (by decide)
        obtain ⟨u1, x1⟩ := hcell 1 (by decide)
        obtain ⟨u2, x2⟩ := hcell 2 (by decide)
        rw [Nat.add_zero] at x0
        have f0 := hfr (i * 3)
        have f1 := hfr (i * 3 + 1)
        have f2 := hfr (i * 3 + 2)
        obtain ⟨D2, k1, k2⟩ := F w4 [] [.int .i64 r.v, .int .i64 r.t, .int .i64 r.b] r (Below.refl _ _) ⟨rfl, rfl⟩ New.nil
        have K1 := Aside.mk k1
        have K2 := Aside.mk k2
        have HWs := Aside.mk (HW.out.keep (sets_keep g [.int .i64 r.v, .int .i64 r.t, .int .i64 r.b] (i * 3) w4) (by simpa using hg1))
        have p0 : (0 : Int) ≤ (i : Int) := by omega
        have p1 : (i : Int) < (l.length : Int) := by have := HLE.out; omega
        clear F hcell hfr k1 k2
        go_wp2
        go_ret
        exact ⟨.slice (some ⟨g, 0, none⟩) l.length cap, D2, l.set i r, rfl, Rests.of_ow ow_reg K1.out, K2.out, by have := HLE.out; simp; omega, HWs.out⟩
      · go_wp2
        go_ret
        exact ⟨.slice (some ⟨g, 0, none⟩) l.length cap, D, l, rfl, Rests.of_ow ow_reg HO.out, HN.out, by have := HLE.out; omega, HW.out⟩
/-! Drawn texts of mails: the walks. -/
/-! Drawn mails: the walks. -/
set_option maxHeartbeats 2000000 in
set_option maxRecDepth 100000 in
theorem l01Pick_calls (W w : World) (C g n cap m : Nat) (hc : HasCur W w C) (hg : g ≠ C) (hn : 0 < n) (hm : n ≤ 1000) (h : ∀ k, k < n → ∃ s : ByteArray, w.cell? ⟨g, k, none⟩ = some (.string s) ∧ s.size ≤ m) :
    Calls Try.prog 168 #[.pointer (some ⟨C, 0, none⟩), .slice (some ⟨g, 0, none⟩) n cap] w fun e w' => ∃ s : ByteArray, e = .returned (.string s) ∧ s.size ≤ m ∧ Went W w w' C := by
  have HC := Aside.mk hc
  have HR := Aside.mk h
  clear hc h
  go_enter Try.func168, Try.ntmps168
  go_wp2_with (fail)
  refine (l01Below_calls W _ C _ HC.out).mono ?_
  rintro e w1 ⟨x, rfl, hx0, _, hx1, hw⟩
  obtain ⟨k, rfl⟩ := Int.eq_ofNat_of_zero_le hx0
  have hk : k < n := by have := hx1 (by omega); omega
  obtain ⟨s, x0, hs⟩ := HR.out k hk
  have x1 := cell_went x0 hw hg
  have HW := Aside.mk hw
  have HS := Aside.mk hs
  have p1 : (k : Int) < (n : Int) := by omega
  clear hw x0 hx1 hs
  go_wp2
  go_ret
  exact ⟨_, rfl, HS.out, HW.out⟩
set_option maxHeartbeats 2000000 in
set_option maxRecDepth 100000 in
theorem l05Text_calls (W w : World) (C : Nat) (hc : HasCur W w C) :
    Calls Try.prog 170 #[.pointer (some ⟨C, 0, none⟩)] w fun e w' => ∃ s : ByteArray, e = .returned (.string s) ∧ s.size ≤ 10 ∧ Went W w w' C := by
  have HL := Aside.mk hc.lt
  have HW := Aside.mk (Went.refl hc)
  clear hc
  obtain ⟨t0, h0⟩ : ∃ t : ByteArray, t = ⟨#[104, 101, 108, 108, 111]⟩ := ⟨_, rfl⟩
  obtain ⟨t1, h1⟩ : ∃ t : ByteArray, t = ⟨#[104, 105, 10]⟩ := ⟨_, rfl⟩
  obtain ⟨t2, h2⟩ : ∃ t : ByteArray, t = ⟨#[]⟩ := ⟨_, rfl⟩
  obtain ⟨t3, h3⟩ : ∃ t : ByteArray, t = ⟨#[116, 101, 120, 116, 32, 111, 102, 32, 105, 116]⟩ := ⟨_, rfl⟩
  obtain ⟨t4, h4⟩ : ∃ t : ByteArray, t = ⟨#[0, 255]⟩ := ⟨_, rfl⟩
  obtain ⟨t5, h5⟩ : ∃ t : ByteArray, t = ⟨#[97, 32, 98]⟩ := ⟨_, rfl⟩
  have HZ : Aside (t0.size ≤ 10 ∧ t1.size ≤ 10 ∧ t2.size ≤ 10 ∧ t3.size ≤ 10 ∧ t4.size ≤ 10 ∧ t5.size ≤ 10) := ⟨by subst h0 h1 h2 h3 h4 h5; decide⟩
  have H0 := Aside.mk h0
  have H1 := Aside.mk h1
  have H2 := Aside.mk h2
  have H3 := Aside.mk h3
  have H4 := Aside.mk h4
  have H5 := Aside.mk h5
  clear h0 h1 h2 h3 h4 h5
  go_enter Try.func170, Try.ntmps170
  go_wp2_with (fail)
  rw [← H0.out, ← H1.out, ← H3.out, ← H4.out, ← H5.out]
  replace HW := Aside.mk (HW.out.alloc (.cells #[.string t0, .string t1, .string ⟨#[]⟩, .string t3, .string t4, .string t5] 9))
  have hcell : ∀ j, j < 6 → (w.alloc (.cells #[.string t0, .string t1, .string ⟨#[]⟩, .string t3, .string t4, .string t5] 9)).cell? ⟨w.heap.size, j, none⟩ = (#[Value.string t0, .string t1, .string ⟨#[]⟩, .string t3, .string t4, .string t5] : Array Value)[j]? := fun j hj => cell_of_row _ _ _ _ _ _ (heap_alloc_new w _)
  refine (l01Pick_calls W _ C _ 6 6 10 HW.out.1 (by have := HL.out; omega) (by decide) (by decide) (fun k hk => ?_)).mono ?_
  · rw [hcell k hk]
    match k, hk with
    | 0, _ => exact ⟨t0, rfl, HZ.out.1⟩
    | 1, _ => exact ⟨t1, rfl, HZ.out.2.1⟩
    | 2, _ => exact ⟨_, rfl, by decide⟩
    | 3, _ => exact ⟨t3, rfl, HZ.out.2.2.2.1⟩
    | 4, _ => exact ⟨t4, rfl, HZ.out.2.2.2.2.1⟩
    | 5, _ => exact ⟨t5, rfl, HZ.out.2.2.2.2.2⟩
  rintro e w1 ⟨s, rfl, hs, hw⟩
  have HS := Aside.mk hs
  replace HW := Aside.mk (HW.out.trans hw)
  clear hw hcell hs
  go_wp2
  go_ret
  exact ⟨_, rfl, HS.out, HW.out⟩
end Go.Proofs.Ytjfjpabfkembcaa.H
