/- Drawn stamps and registers: the walks. -/
import Derived.Test.YtjfjpabfkembcaaHCurW
namespace Go.Proofs.Ytjfjpabfkembcaa.H
open Go.RowKit
set_option linter.unusedVariables false
set_option linter.unusedSimpArgs false
set_option maxHeartbeats 2000000 in
set_option maxRecDepth 100000 in
theorem l01New_calls (w : World) (A : Option Addr) (c : Nat) (code : List Int) (h : rdBytes w (.slice A code.length c) code) :
    Calls Try.prog 112 #[.slice A code.length c] w fun e w' => ∃ C : Nat, e = .returned (.pointer (some ⟨C, 0, none⟩)) ∧ HasCur w w' C ∧ Below w.heap.size w w' := by
  obtain ⟨_, _, _, _, hm⟩ := rd_len h
  have HR := Aside.mk h
  clear h
  go_enter Try.func112, Try.ntmps112
  go_wp2
  go_loopw [3, 4] (fun v3 v4 wr => ∃ (i : Nat) (h : Int), i ≤ code.length ∧ v4 = .int .i64 i ∧ v3 = .int .i64 h ∧ Aside (Below w.heap.size w wr)) (fun _ v4 _ => code.length - (intOf v4).toNat)
  case atStart => exact ⟨0, _, Nat.zero_le _, rfl, rfl, ⟨Below.refl _ _⟩⟩
  case round =>
    obtain ⟨i, h, hi, rfl, rfl, HB⟩ := hrel
    by_cases hlt : i < code.length
    · by_cases h4 : (i : Int) < 4000
      · obtain ⟨ad, rfl, x0⟩ := rdBytes_at (rdBytes_mov HB.out HR.out) i hlt
        generalize code[i] = y at x0
        have p0 : (0 : Int) ≤ (i : Int) := by omega
        have p1 : (i : Int) < (code.length : Int) := by omega
        go_wp2
        go_roundw
        case rel => exact ⟨i + 1, _, by omega, by go_num, rfl, HB⟩
        case measure => simp [intOf]; omega
      · have p1 : (i : Int) < (code.length : Int) := by omega
        go_wp2
        go_ret
        exact ⟨_, rfl, ⟨A, c, code, 0, h, Loc.new _ _ _, HB.out.size, HR.out, Nat.zero_le _, by (repeat (first | (with_reducible exact HB.out) | (with_reducible exact Below.refl _ _) | (with_reducible refine below_set ?_ (by first | omega | (dsimp only; omega) | (simp; done) | (simp; omega)) _) | (with_reducible refine below_alloc ?_ _) | (with_reducible refine below_drewN ?_ _) | (with_reducible refine below_drew ?_)))⟩, by (repeat (first | (with_reducible exact HB.out) | (with_reducible exact Below.refl _ _) | (with_reducible refine below_set ?_ (by first | omega | (dsimp only; omega) | (simp; done) | (simp; omega)) _) | (with_reducible refine below_alloc ?_ _) | (with_reducible refine below_drewN ?_ _) | (with_reducible refine below_drew ?_)))⟩
    · have p1 : ¬ ((i : Int) < (code.length : Int)) := by omega
      go_wp2
      go_ret
      exact ⟨_, rfl, ⟨A, c, code, 0, h, Loc.new _ _ _, HB.out.size, HR.out, Nat.zero_le _, by (repeat (first | (with_reducible exact HB.out) | (with_reducible exact Below.refl _ _) | (with_reducible refine below_set ?_ (by first | omega | (dsimp only; omega) | (simp; done) | (simp; omega)) _) | (with_reducible refine below_alloc ?_ _) | (with_reducible refine below_drewN ?_ _) | (with_reducible refine below_drew ?_)))⟩, by (repeat (first | (with_reducible exact HB.out) | (with_reducible exact Below.refl _ _) | (with_reducible refine below_set ?_ (by first | omega | (dsimp only; omega) | (simp; done) | (simp; omega)) _) | (with_reducible refine below_alloc ?_ _) | (with_reducible refine below_drewN ?_ _) | (with_reducible refine below_drew ?_)))⟩
set_option maxHeartbeats 2000000 in
set_option maxRecDepth 100000 in
theorem l01PickInt_calls (W w : World) (C : Nat) (A : Option Addr) (c : Nat) (l : List Int) (hc : HasCur W w C) (h : rdInts w (.slice A l.length c) l) (hA : ∀ ad, A = some ad → ad.block ≠ C) (hl : 0 < l.length) :
    Calls Try.prog 174 #[.pointer (some ⟨C, 0, none⟩), .slice A l.length c] w fun e w' => ∃ x : Int, e = .returned (.int .i64 x) ∧ x ∈ l ∧ Went W w w' C := by
  obtain ⟨_, _, _, _, hm⟩ := rd_len h
  have HC := Aside.mk hc
  have HR := Aside.mk h
  have HA := Aside.mk hA
  clear hc h hA
  go_enter Try.func174, Try.ntmps174
  go_wp2_with (fail)
  refine (l01Below_calls W _ C _ HC.out).mono ?_
  rintro e w1 ⟨x, rfl, hx0, _, hx1, hw⟩
  obtain ⟨k, rfl⟩ := Int.eq_ofNat_of_zero_le hx0
  have hk : k < l.length := by have := hx1 (by omega); omega
  obtain ⟨ad, rfl, x0⟩ := rdInts_at HR.out k hk
  have x1 := cell_went x0 hw (by rw [blk_add]; exact HA.out ad rfl)
  have HM : Aside (l[k] ∈ l) := ⟨List.getElem_mem hk⟩
  generalize l[k] = y at x0 x1 HM
  have HW := Aside.mk hw
  have p1 : (k : Int) < (l.length : Int) := by omega
  clear hw x0 hx1
  go_wp2
  go_ret
  exact ⟨_, rfl, HM.out, HW.out⟩
set_option maxHeartbeats 2000000 in
set_option maxRecDepth 100000 in
theorem l03Stamp_calls (W w : World) (C : Nat) (hc : HasCur W w C) :
    Calls Try.prog 167 #[.pointer (some ⟨C, 0, none⟩)] w fun e w' => ∃ t b : Int, e = .returned (.agg #[.int .i64 t, .int .i64 b]) ∧ 0 ≤ t ∧ t < 12 ∧ 1 ≤ b ∧ b ≤ 2 ∧ Went W w w' C := by
  have HL := Aside.mk hc.lt
  have HW := Aside.mk (Went.refl hc)
  clear hc
  go_enter Try.func167, Try.ntmps167
  go_wp2_with (fail)
  replace HW := Aside.mk (HW.out.alloc (.cells #[.int .i64 0, .int .i64 0] 29))
  have L0 := Aside.mk (Loc.new w #[.int .i64 0, .int .i64 0] 29)
  refine (l01Below_calls W _ C _ HW.out.1).mono ?_
  rintro e w1 ⟨t, rfl, ht0, _, ht1, hw⟩
  replace ht1 := ht1 (by decide)
  replace L0 := Aside.mk (L0.out.went hw (by have := HL.out; omega))
  replace HW := Aside.mk (HW.out.trans hw)
  clear hw
  go_wp2_with (fail)
  refine (l01Below_calls W _ C _ HW.out.1).mono ?_
  rintro e w2 ⟨b, rfl, hb0, _, hb1, hw⟩
  replace hb1 := hb1 (by decide)
  replace L0 := Aside.mk (L0.out.went hw (by have := HL.out; omega))
  replace HW := Aside.mk (HW.out.trans hw)
  clear hw
  have l0 := L0.out.cells
  have q0 := L0.out.lt
  have f0 := L0.out.free
  go_wp2
  refine bodyPost_ret (v := .agg #[.int .i64 t, .int .i64 (1 + b)]) (by simp [results, go_sem, l0, q0]) rfl ⟨t, 1 + b, rfl, ht0, ht1, by omega, by omega, ?_⟩
  (repeat (first | (with_reducible exact HW.out) | (with_reducible refine Went.set ?_ (by first | omega | (dsimp only; omega) | (simp; done) | (simp; omega) | (have h1_ := HQ1.out; dsimp only; omega) | (have h1_ := HQ1.out; have h2_ := HQ2.out; dsimp only; omega)) _) | (with_reducible refine Went.alloc ?_ _) | (with_reducible refine Went.drewN ?_ _) | (with_reducible refine Went.drew ?_)))
end Go.Proofs.Ytjfjpabfkembcaa.H
