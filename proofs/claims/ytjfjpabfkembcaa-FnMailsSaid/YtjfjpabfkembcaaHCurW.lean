/- The first steps of a draw: a byte, a number below another: the walks. What is drawn is told by its bounds alone. -/
import Derived.Test.YtjfjpabfkembcaaHCur
import Derived.Test.YtjfjpabfkembcaaHCopyBox
namespace Go.Proofs.Ytjfjpabfkembcaa.H
open Go.RowKit
set_option linter.unusedVariables false
set_option linter.unusedSimpArgs false
theorem cur_h {w : World} {A : Option Addr} {C c i : Nat} {code : List Int} {h : Int} (hl : Loc w C #[.slice A code.length c, .int .i64 i, .int .i64 h] 175) (g : Int) :
    Loc (w.setCell ⟨C, 2, none⟩ (.int .i64 g)) C #[.slice A code.length c, .int .i64 i, .int .i64 g] 175 := hl.put 2 _
theorem cur_i {w : World} {A : Option Addr} {C c i : Nat} {code : List Int} {h : Int} (hl : Loc w C #[.slice A code.length c, .int .i64 i, .int .i64 h] 175) (j : Nat) :
    Loc (w.setCell ⟨C, 1, none⟩ (.int .i64 j)) C #[.slice A code.length c, .int .i64 j, .int .i64 h] 175 := hl.put 1 _
theorem Keep.drew1 {D : List Nat} {w w' : World} (h : Keep D w w') : Keep D w w'.drew := h.trans (Keep.of_below (below_drew (Below.refl _ _)))
theorem Loc.drewN {w : World} {b : Nat} {cs : Array Value} {t : TypeId} (h : Loc w b cs t) (n : Nat) : Loc (w.drewN n) b cs t := h
theorem went_of {W w w' : World} {A : Option Addr} {C c i : Nat} {code : List Int} {h : Int} (hl : Loc w' C #[.slice A code.length c, .int .i64 i, .int .i64 h] 175) (hs : W.heap.size ≤ C)
    (hr : rdBytes W (.slice A code.length c) code) (hi : i ≤ code.length) (hb : Below W.heap.size W w) (hlt : C < w.heap.size) (hk : Keep [C] w w') : Went W w w' C :=
  ⟨⟨A, c, code, i, h, hl, hs, hr, hi, hb.trans (hk.below (by simpa using hs) hb.size)⟩, hk, hlt⟩
set_option maxHeartbeats 2000000 in
set_option maxRecDepth 100000 in
theorem l01Byte_calls (W w : World) (C : Nat) (hc : HasCur W w C) :
    Calls Try.prog 113 #[.pointer (some ⟨C, 0, none⟩)] w fun e w' => ∃ x : Int, e = .returned (.int .i64 x) ∧ 0 ≤ x ∧ x ≤ 255 ∧ Went W w w' C := by
  obtain ⟨A, c, code, i, h, hl, hs, hr, hi, hb⟩ := hc
  obtain ⟨_, _, _, _, hm⟩ := rd_len hr
  have HL := Aside.mk hl
  have HS := Aside.mk hs
  have HR := Aside.mk hr
  have HB := Aside.mk hb
  have l0 := hl.cells
  have q0 := hl.lt
  have f0 := hl.free
  by_cases hlt : i < code.length
  · obtain ⟨ad, rfl, x0⟩ := rdBytes_at hr i hlt
    have hlw := World.block_lt_of_cell? W _ x0
    have x1 : w.cell? (ad.add i) = some (.int .u8 code[i]) := (hb.cell hlw).trans x0
    have hne : (ad.add i).block ≠ C := by omega
    have x2 := fun u => cell_far2 x1 (p := ⟨C, 2, none⟩) hne u
    generalize code[i] = y at x0 x1 x2
    have x3 := fun (n : Nat) u => (show ((w.drewN n).setCell ⟨C, 2, none⟩ u).cell? (ad.add i) = some (.int .u8 y) from x2 u)
    have p0 : (0 : Int) ≤ (i : Int) := by omega
    have p1 : (i : Int) < (code.length : Int) := by omega
    clear hl hs hr hb x0 x1 hne hlw
    go_enter Try.func113, Try.ntmps113
    go_wp2
    repeat (go_quiet (fail); try go_wp2)
    go_ret
    refine ⟨_, rfl, (and255 _).1, (and255 _).2, ?_⟩
    refine went_of (i := i + 1) (h := wrap64 (wrap64 (h * 6364136223846793005) + 1442695040888963407)) ?_ HS.out HR.out (by omega) HB.out q0 ?_
    · exact cur_i (Loc.drewN (cur_h HL.out _) _) (i + 1)
    · (repeat (first | (with_reducible exact Keep.refl _ _) | (with_reducible refine Keep.set ?_ (by simp) _) | (with_reducible refine Keep.drewN ?_ _) | (with_reducible refine Keep.drew1 ?_) | (with_reducible refine Keep.alloc ?_ _)))
  · have p1 : ¬ ((i : Int) < (code.length : Int)) := by omega
    clear hl hs hr hb
    go_enter Try.func113, Try.ntmps113
    go_wp2
    repeat (go_quiet (fail); try go_wp2)
    go_ret
    refine ⟨_, rfl, (and255 _).1, (and255 _).2, ?_⟩
    refine went_of (h := wrap64 (wrap64 (h * 6364136223846793005) + 1442695040888963407)) ?_ HS.out HR.out hi HB.out q0 ?_
    · exact Loc.drewN (cur_h HL.out _) 0
    · (repeat (first | (with_reducible exact Keep.refl _ _) | (with_reducible refine Keep.set ?_ (by simp) _) | (with_reducible refine Keep.drewN ?_ _) | (with_reducible refine Keep.drew1 ?_) | (with_reducible refine Keep.alloc ?_ _)))
set_option maxHeartbeats 2000000 in
set_option maxRecDepth 100000 in
theorem l01Below_calls (W w : World) (C : Nat) (n : Int) (hc : HasCur W w C) :
    Calls Try.prog 114 #[.pointer (some ⟨C, 0, none⟩), .int .i64 n] w fun e w' => ∃ x : Int, e = .returned (.int .i64 x) ∧ 0 ≤ x ∧ (n ≤ 0 → x = 0) ∧ (0 < n → x < n) ∧ Went W w w' C := by
  have HW := Aside.mk (Went.refl hc)
  clear hc
  by_cases h1 : n ≤ 0
  · go_enter Try.func114, Try.ntmps114
    go_wp2
    go_ret
    exact ⟨0, rfl, by omega, fun _ => rfl, fun h => by omega, HW.out⟩
  · have hn0 : ¬ n = 0 := by omega
    by_cases h2 : n ≤ 256
    · go_enter Try.func114, Try.ntmps114
      go_wp2_with (go_at_call 113; refine (l01Byte_calls W _ C HW.out.1).mono ?_; rintro e w1 ⟨x, rfl, hx0, hx1, hw⟩; replace HW := Aside.mk (HW.out.trans hw); clear hw)
      go_ret
      exact ⟨_, rfl, Int.emod_nonneg _ hn0, fun h => by omega, fun h => Int.emod_lt_of_pos _ h, HW.out⟩
    · go_enter Try.func114, Try.ntmps114
      go_wp2_with (fail)
      refine (l01Byte_calls W _ C HW.out.1).mono ?_
      rintro e w1 ⟨x, rfl, hx0, hx1, hw⟩
      replace HW := Aside.mk (HW.out.trans hw)
      clear hw
      go_wp2_with (fail)
      refine (l01Byte_calls W _ C HW.out.1).mono ?_
      rintro e w2 ⟨y, rfl, hy0, hy1, hw⟩
      replace HW := Aside.mk (HW.out.trans hw)
      clear hw
      go_wp2_with (fail)
      refine (l01Byte_calls W _ C HW.out.1).mono ?_
      rintro e w3 ⟨z, rfl, hz0, hz1, hw⟩
      replace HW := Aside.mk (HW.out.trans hw)
      clear hw
      go_wp2_with (fail)
      refine (l01Byte_calls W _ C HW.out.1).mono ?_
      rintro e w4 ⟨u, rfl, hu0, hu1, hw⟩
      replace HW := Aside.mk (HW.out.trans hw)
      clear hw
      go_wp2
      go_ret
      exact ⟨_, rfl, Int.emod_nonneg _ hn0, fun h => by omega, fun h => Int.emod_lt_of_pos _ h, HW.out⟩
end Go.Proofs.Ytjfjpabfkembcaa.H
