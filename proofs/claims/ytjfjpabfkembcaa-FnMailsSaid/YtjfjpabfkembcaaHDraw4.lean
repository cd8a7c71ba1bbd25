/- Drawn flags: the walks. -/
import Derived.Test.YtjfjpabfkembcaaHDraw3
import Derived.Test.YtjfjpabfkembcaaHSnoc
namespace Go.Proofs.Ytjfjpabfkembcaa.H
open Go.RowKit
set_option linter.unusedVariables false
set_option linter.unusedSimpArgs false
def flagDrawn (r : Reg) : Prop := 0 ≤ r.v ∧ r.v < 2 ∧ 0 ≤ r.t ∧ r.t < 12 ∧ 1 ≤ r.b ∧ r.b ≤ 2
theorem New.offC {w0 w : World} {D : List Nat} {C : Nat} (h : New w0 w D) (hC : C < w0.heap.size) : C ∉ D := fun hx => by have := (h.2 C hx).1; omega
set_option maxHeartbeats 2000000 in
set_option maxRecDepth 100000 in
theorem l04Flags_calls (W w : World) (C : Nat) (hc : HasCur W w C) :
    Calls Try.prog 124 #[.pointer (some ⟨C, 0, none⟩)] w fun e w' => ∃ v D l, e = .returned v ∧ owRegs w' D v l ∧ New w w' D ∧ l.length = 3 ∧ (∀ r ∈ l, flagDrawn r) ∧ Went W w w' C := by
  have HL := Aside.mk hc.lt
  have HW := Aside.mk (Went.refl hc)
  clear hc
  go_enter Try.func124, Try.ntmps124
  go_wp2
  go_loopw [3, 4, 5] (fun v3 v4 _ wr => ∃ (i : Nat) (Av : Option Addr) (nv cv : Nat) (D : List Nat) (l : List Reg), i ≤ 3 ∧ v4 = .int .i64 i ∧ v3 = .slice Av nv cv ∧ l.length = i ∧ Aside (owRegs wr D (.slice Av nv cv) l) ∧ Aside (New w wr D) ∧ Aside (∀ r ∈ l, flagDrawn r) ∧ Aside (Went W w wr C)) (fun _ v4 _ _ => 3 - (intOf v4).toNat)
  case atStart => exact ⟨0, _, _, _, [w.heap.size], [], by omega, rfl, rfl, rfl, ⟨owRow_lit0 w _ rfl⟩, ⟨new_lit0 w w _ _ rfl (Nat.le_refl _)⟩, ⟨by simp⟩, ⟨HW.out.alloc _⟩⟩
  case round =>
    clear HW
    obtain ⟨i, Av, nv, cv, D, l, hi, rfl, rfl, hl, HO, HN, HF, HW⟩ := hrel
    by_cases hlt : i < 3
    · have HLE := Aside.mk hl
      clear hl
      go_wp2_with (fail)
      refine (l03Stamp_calls W _ C HW.out.1).mono ?_
      rintro e w1 ⟨t, b, rfl, ht0, ht1, hb0, hb1, hw⟩
      replace HO := Aside.mk (owRow_went ow_reg HO.out hw (HN.out.offC HL.out))
      replace HN := Aside.mk (HN.out.mono hw.size)
      replace HW := Aside.mk (HW.out.trans hw)
      have HQ1 : Aside (w.heap.size ≤ w1.heap.size) := ⟨HW.out.size⟩
      clear hw
      go_wp2
      refine zBegin (S := (fun w' => Loc w' w1.heap.size #[.int .i64 t, .int .i64 b] 29 ∧ Aside (Went W w w' C))) (z := 8) (by kernel_rfl) (by exact ⟨(Loc.new w1 _ _).drew', ⟨(HW.out.alloc _).drew⟩⟩) (fun hHeld => ?_)
      refine zT 0 13 hHeld ?_
      refine zT 1 14 hHeld ?_
      refine zT 3 16 hHeld ?_
      refine zReady (rs := [2]) (by kernel_rfl) (by simp) ?_
      refine zOne (by decide) rfl (fun K hK => ?_) zNil
      go_simp
      refine (l01Below_calls W _ C _ hHeld.2.out.1).mono ?_; rintro e w2 ⟨x, rfl, hx0, _, hx1, hw⟩; have HO2 := Aside.mk (owRow_went ow_reg (owRow_below ow_reg HO.out (below_drew (below_alloc (Below.refl _ w1) (.cells #[.int .i64 t, .int .i64 b] 29)))) hw (HN.out.offC HL.out)); have HN2 := Aside.mk ((HN.out.alloc (.cells #[.int .i64 t, .int .i64 b] 29)).mono hw.size)
      refine hK.out _ _ (by exact ⟨hHeld.1.went hw (by have := HL.out; have := HQ1.out; omega), ⟨hHeld.2.out.trans hw⟩⟩) (fun hHeld => ?_)
      clear hK K
      (try simp only [Act.put, List.setIfInBounds_toArray, List.set_cons_zero, List.set_cons_succ])
      clear hw
      refine zT 4 17 hHeld ?_
      refine zReady (rs := [5]) (by kernel_rfl) (by simp) ?_
      refine zOne (by decide) rfl (fun K hK => ?_) zNil
      go_simp
      refine hK.out _ _ (by exact ⟨hHeld.1.alloc _, ⟨hHeld.2.out.alloc _⟩⟩) (fun hHeld => ?_)
      clear hK K
      (try simp only [Act.put, List.setIfInBounds_toArray, List.set_cons_zero, List.set_cons_succ])
      refine zReady (rs := [6]) (by kernel_rfl) (by simp) ?_
      refine zOne (by decide) rfl (fun K hK => ?_) zNil
      refine step_snoc el_reg ow_reg (owRow_alloc ow_reg HO2.out (.cells #[.int .i64 x, .int .i64 t, .int .i64 b] 136)) (w0 := w) (y := (⟨x, t, b⟩ : Reg)) (Dx := []) (cs := [.int .i64 x, .int .i64 t, .int .i64 b]) ⟨rfl, rfl⟩ (by rw [List.append_nil]; exact HN2.out.alloc _) (by have := hHeld.2.out.size; exact this) (.tmp 13) (.tmp 18) (by rfl) (by rfl) (by rfl) w2.heap.size (by rfl) (Loc.new w2 _ _) (by have := HLE.out; omega) (by have := HLE.out; omega) (w2.heap.size + 1) (by simp) (fun g cap w' D' hk1 hk2 hk3 hk => ?_)
      refine hK.out _ _ (by exact ⟨hHeld.1.keep hk (fun hx => by have := (HN.out.2 _ hx).2; omega), ⟨hHeld.2.out.keep hk (fun b hb => (HN2.out.2 b hb).1)⟩⟩) (fun hHeld => ?_)
      clear hK K
      (try simp only [Act.put, List.setIfInBounds_toArray, List.set_cons_zero, List.set_cons_succ])
      refine zT 7 3 hHeld ?_
      refine zDone (by kernel_rfl) ?_ _
      have HO3 := Aside.mk hk1
      have HN3 := Aside.mk hk2
      have HF3 : Aside (∀ r ∈ l ++ [(⟨x, t, b⟩ : Reg)], flagDrawn r) := ⟨fun r hr => by
        rw [List.mem_append, List.mem_singleton] at hr
        rcases hr with hr | rfl
        · exact HF.out r hr
        · exact ⟨hx0, hx1 (by decide), ht0, ht1, hb0, hb1⟩⟩
      have HW3 := hHeld.2
      clear hHeld hk1 hk2 hk3 hk
      go_wp2
      go_roundw
      case rel => exact ⟨i + 1, _, _, _, _, _, by omega, by go_num, rfl, by have := HLE.out; simp; omega, HO3, HN3, HF3, HW3⟩
      case measure => simp [intOf]; omega
    · go_wp2
      go_ret
      exact ⟨_, D, l, rfl, HO.out, HN.out, by omega, HF.out, HW.out⟩
set_option maxHeartbeats 2000000 in
set_option maxRecDepth 100000 in
theorem drawFlags_calls (w : World) (A : Option Addr) (c : Nat) (code : List Int) (h : rdBytes w (.slice A code.length c) code) :
    Calls Try.prog 41 #[.slice A code.length c] w fun e w' => ∃ va Da la vb Db lb vc Dc lc, e = .returned (.tuple #[va, vb, vc]) ∧ (owRegs w' Da va la ∧ la.length = 3 ∧ ∀ r ∈ la, flagDrawn r) ∧ (owRegs w' Db vb lb ∧ lb.length = 3 ∧ ∀ r ∈ lb, flagDrawn r) ∧
      (owRegs w' Dc vc lc ∧ lc.length = 3 ∧ ∀ r ∈ lc, flagDrawn r) ∧ Below w.heap.size w w' := by
  have HR := Aside.mk h
  clear h
  go_enter Try.func41, Try.ntmps41
  go_wp2_with (fail)
  refine (l01New_calls _ A c code HR.out).mono ?_
  rintro e w1 ⟨C, rfl, hc, hb⟩
  have HB := Aside.mk hb
  have HC := Aside.mk hc
  have HCg := Aside.mk hc.ge
  clear hb hc
  go_wp2_with (fail)
  refine (l04Flags_calls w _ C HC.out).mono ?_
  rintro e w2 ⟨va, Da, la, rfl, hoa, hna, hla, hfa, hw⟩
  have HOa := Aside.mk hoa
  have HNa := Aside.mk hna
  have HFa := Aside.mk (And.intro hla hfa)
  have HW := Aside.mk hw
  clear hoa hna hla hfa hw
  go_wp2_with (fail)
  refine (l04Flags_calls w _ C HW.out.1).mono ?_
  rintro e w3 ⟨vb, Db, lb, rfl, hob, hnb, hlb, hfb, hw⟩
  have HOb := Aside.mk hob
  have HNb := Aside.mk hnb
  have HFb := Aside.mk (And.intro hlb hfb)
  replace HOa := Aside.mk (owRow_went ow_reg HOa.out hw (HNa.out.offC HC.out.lt))
  replace HNa := Aside.mk (HNa.out.mono hw.size)
  have hlt2 := HW.out.1.lt
  replace HW := Aside.mk (HW.out.trans hw)
  clear hob hnb hlb hfb hw
  go_wp2_with (fail)
  refine (l04Flags_calls w _ C HW.out.1).mono ?_
  rintro e w4 ⟨vc, Dc, lc, rfl, hoc, hnc, hlc, hfc, hw⟩
  have HOc := Aside.mk hoc
  have HFc := Aside.mk (And.intro hlc hfc)
  replace HOa := Aside.mk (owRow_went ow_reg HOa.out hw (HNa.out.offC HC.out.lt))
  replace HOb := Aside.mk (owRow_went ow_reg HOb.out hw (HNb.out.offC hlt2))
  replace HW := Aside.mk (HW.out.trans hw)
  clear hoc hnc hlc hfc hw hlt2
  go_wp2
  refine bodyPost_ret (v := .tuple #[va, vb, vc]) (by simp [results, go_sem]) rfl ?_
  exact ⟨va, Da, la, vb, Db, lb, vc, Dc, lc, rfl, ⟨HOa.out, HFa.out⟩, ⟨HOb.out, HFb.out⟩, ⟨HOc.out, HFc.out⟩, HW.out.low HB.out HCg.out⟩
set_option maxHeartbeats 2000000 in
set_option maxRecDepth 100000 in
theorem drawPlaces_calls (w : World) (A : Option Addr) (c : Nat) (code : List Int) (h : rdBytes w (.slice A code.length c) code) :
    Calls Try.prog 34 #[.slice A code.length c] w fun e w' => ∃ v l, e = .returned v ∧ rdInts w' v l ∧ l.length = 12 ∧ (∀ x ∈ l, 0 ≤ x ∧ x < 10000) ∧ Below w.heap.size w w' := by
  have HR := Aside.mk h
  clear h
  go_enter Try.func34, Try.ntmps34
  go_wp2_with (fail)
  refine (l01New_calls _ A c code HR.out).mono ?_
  rintro e w1 ⟨C, rfl, hc, hb⟩
  have HB := Aside.mk hb
  have HL := Aside.mk hc.lt
  have HCg := Aside.mk hc.ge
  have HW := Aside.mk (Went.refl hc)
  clear hb hc
  go_wp2_with (fail)
  refine (l01Byte_calls w _ C HW.out.1).mono ?_
  rintro e w2 ⟨x, rfl, _, _, hw⟩
  replace HW := Aside.mk (HW.out.trans hw)
  clear hw
  go_wp2
  go_loopw [4, 5] (fun v4 v5 wr => ∃ (i : Nat) (Av : Option Addr) (nv cv : Nat) (D : List Nat) (l : List Int), i ≤ 12 ∧ v5 = .int .i64 i ∧ v4 = .slice Av nv cv ∧ l.length = i ∧ Aside (owInts wr D (.slice Av nv cv) l) ∧ Aside (New w1 wr D) ∧ Aside (∀ x ∈ l, 0 ≤ x ∧ x < 10000) ∧ Aside (Went w w1 wr C)) (fun _ v5 _ => 12 - (intOf v5).toNat)
  case atStart => exact ⟨0, _, _, _, [w2.heap.size], [], by omega, rfl, rfl, rfl, ⟨owRow_lit0 w2 _ rfl⟩, ⟨new_lit0 w1 w2 _ _ rfl HW.out.size⟩, ⟨by simp⟩, ⟨HW.out.alloc _⟩⟩
  case round =>
    clear HW
    obtain ⟨i, Av, nv, cv, D, l, hi, rfl, rfl, hl, HO, HN, HF, HW⟩ := hrel
    by_cases hlt : i < 12
    · have HLE := Aside.mk hl
      clear hl
      go_wp2_with (fail)
      refine (l01Below_calls w _ C _ HW.out.1).mono ?_
      rintro e w3 ⟨y, rfl, hy0, _, hy1, hw⟩
      replace HO := Aside.mk (owRow_went ow_int HO.out hw (HN.out.offC HL.out))
      replace HN := Aside.mk (HN.out.mono hw.size)
      replace HW := Aside.mk (HW.out.trans hw)
      clear hw
      go_wp2_with (at_builtin; refine list_snoc el_int ow_int (owRow_alloc ow_int HO.out (.cells #[.int .i64 y] 3)) (w0 := w1) (y := y) (Dx := []) (cs := [.int .i64 y]) ⟨rfl, rfl⟩ (by rw [List.append_nil]; exact HN.out.alloc _) (by have := HW.out.size; simp; omega) (.tmp 15) (.tmp 18) (by rfl) (by rfl) (by rfl) w3.heap.size (by rfl) (Loc.new w3 _ _) (by have := HLE.out; omega) (by have := HLE.out; omega) (w3.heap.size + 1) (by simp) (fun g cap w' D' hk1 hk2 hk3 hk => ?_); have HO3 := Aside.mk hk1; have HN3 := Aside.mk hk2; have HW3 := Aside.mk ((HW.out.alloc (.cells #[.int .i64 y] 3)).keep hk (fun b hb => (HN.out.2 b hb).1)); clear hk1 hk2 hk3 hk)
      have HF3 : Aside (∀ r ∈ l ++ [y], 0 ≤ r ∧ r < 10000) := ⟨fun r hr => by
        rw [List.mem_append, List.mem_singleton] at hr
        rcases hr with hr | rfl
        · exact HF.out r hr
        · exact ⟨hy0, hy1 (by decide)⟩⟩
      go_roundw
      case rel => exact ⟨i + 1, _, _, _, _, _, by omega, by go_num, rfl, by have := HLE.out; simp; omega, HO3, HN3, HF3, HW3⟩
      case measure => simp [intOf]; omega
    · go_wp2
      go_ret
      exact ⟨_, l, rfl, owRow_rd ow_int HO.out, by omega, HF.out, HW.out.low HB.out HCg.out⟩
end Go.Proofs.Ytjfjpabfkembcaa.H
