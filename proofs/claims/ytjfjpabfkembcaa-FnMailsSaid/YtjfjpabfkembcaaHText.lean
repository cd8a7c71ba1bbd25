/- Drawn texts: the walks. -/
import Derived.Test.YtjfjpabfkembcaaHDraw4
import Derived.Test.YtjfjpabfkembcaaHVar
import Derived.Test.YtjfjpabfkembcaaHTurnPure
namespace Go.Proofs.Ytjfjpabfkembcaa.H
open Go.RowKit
set_option linter.unusedVariables false
set_option linter.unusedSimpArgs false
set_option maxHeartbeats 2000000 in
set_option maxRecDepth 100000 in
theorem l01Text_calls (W w : World) (C : Nat) (n : Int) (hn0 : 0 ≤ n) (hn1 : n ≤ 5000) (hc : HasCur W w C) :
    Calls Try.prog 135 #[.pointer (some ⟨C, 0, none⟩), .int .i64 n] w fun e w' => ∃ s : ByteArray, e = .returned (.string s) ∧ (s.size : Int) = n ∧ Went W w w' C := by
  have HL := Aside.mk hc.lt
  have HW := Aside.mk (Went.refl hc)
  clear hc
  go_enter Try.func135, Try.ntmps135
  go_wp2
  go_loopw [5, 6] (fun v5 v6 wr => ∃ (i g nv cv : Nat) (D : List Nat) (l : List Int), (i : Int) ≤ n ∧ v6 = .int .i64 i ∧ v5 = .slice (some ⟨g, 0, none⟩) nv cv ∧ Aside (l.length = i) ∧ Aside (owBytes wr D (.slice (some ⟨g, 0, none⟩) nv cv) l) ∧ Aside (New w wr D) ∧ Aside (Went W w wr C)) (fun _ v6 _ => n.toNat - (intOf v6).toNat)
  case atStart => exact ⟨0, _, _, _, [w.heap.size], [], by omega, rfl, rfl, ⟨rfl⟩, ⟨owRow_lit0 w _ rfl⟩, ⟨new_lit0 w w _ _ rfl (Nat.le_refl _)⟩, ⟨HW.out.alloc _⟩⟩
  case round =>
    clear HW
    obtain ⟨i, g0, nv, cv, D, l, hi, rfl, rfl, HLE, HO, HN, HW⟩ := hrel
    by_cases hlt : (i : Int) < n
    · go_wp2_with (fail)
      refine (l01Byte_calls W _ C HW.out.1).mono ?_
      rintro e w1 ⟨x, rfl, hx0, hx1, hw⟩
      replace HO := Aside.mk (owRow_went ow_byte HO.out hw (HN.out.offC HL.out))
      replace HN := Aside.mk (HN.out.mono hw.size)
      replace HW := Aside.mk (HW.out.trans hw)
      clear hw
      go_wp2_with (at_builtin; refine list_snoc el_byte ow_byte (owRow_alloc ow_byte HO.out (.cells #[.int .u8 x] 5)) (w0 := w) (y := x) (Dx := []) (cs := [.int .u8 x]) ⟨rfl, rfl⟩ (by rw [List.append_nil]; exact HN.out.alloc _) (by have := HW.out.size; simp; omega) (.tmp 15) (.tmp 19) (by rfl) (by rfl) (by rfl) w1.heap.size (by rfl) (Loc.new w1 _ _) (by have := HLE.out; omega) (by have := HLE.out; omega) (w1.heap.size + 1) (by simp) (fun g cap w' D' hk1 hk2 hk3 hk => ?_); have HO3 := Aside.mk hk1; have HN3 := Aside.mk hk2; have HW3 := Aside.mk ((HW.out.alloc (.cells #[.int .u8 x] 5)).keep hk (fun b hb => (HN.out.2 b hb).1)); clear hk1 hk2 hk3 hk)
      go_roundw
      case rel => exact ⟨i + 1, _, _, _, _, _, by omega, by go_num, rfl, ⟨by have := HLE.out; simp; omega⟩, HO3, HN3, HW3⟩
      case measure => simp [intOf]; omega
    · have hr : rdBytes wr (.slice (some ⟨g0, 0, none⟩) nv cv) l := owRow_rd ow_byte HO.out
      have hnv : l.length = nv := by
        obtain ⟨A, c, e, _⟩ := rd_len hr
        injection e with _ e2
        exact e2.symm
      have hcv := conv_bytes hr hnv
      clear hr hnv
      go_wp2
      go_ret
      exact ⟨_, rfl, by rw [strOfNums_size]; have := HLE.out; omega, HW.out⟩
set_option maxHeartbeats 2000000 in
set_option maxRecDepth 100000 in
theorem drawSumOf_calls (w : World) (A : Option Addr) (c : Nat) (code : List Int) (h : rdBytes w (.slice A code.length c) code) :
    Calls Try.prog 52 #[.slice A code.length c] w fun e w' => ∃ s : ByteArray, e = .returned (.string s) ∧ s.size < 40 ∧ Below w.heap.size w w' := by
  have HR := Aside.mk h
  clear h
  go_enter Try.func52, Try.ntmps52
  go_wp2_with (fail)
  refine (l01New_calls _ A c code HR.out).mono ?_
  rintro e w1 ⟨C, rfl, hc, hb⟩
  have HB := Aside.mk hb
  have HCg := Aside.mk hc.ge
  have HW := Aside.mk (Went.refl hc)
  clear hb hc
  go_wp2_with (fail)
  refine (l01Below_calls w _ C _ HW.out.1).mono ?_
  rintro e w2 ⟨n, rfl, hn0, _, hn1, hw⟩
  replace hn1 := hn1 (by decide)
  replace HW := Aside.mk (HW.out.trans hw)
  clear hw
  go_wp2_with (fail)
  refine (l01Text_calls w _ C n hn0 (by omega) HW.out.1).mono ?_
  rintro e w3 ⟨s, rfl, hs, hw⟩
  replace HW := Aside.mk (HW.out.trans hw)
  clear hw
  go_wp2
  go_ret
  exact ⟨s, rfl, by omega, HW.out.low HB.out HCg.out⟩
end Go.Proofs.Ytjfjpabfkembcaa.H
