/- Drawn flags of whatever kind: the walks. -/
import Derived.Test.YtjfjpabfkembcaaHDraw4
namespace Go.Proofs.Ytjfjpabfkembcaa.H
open Go.RowKit
set_option linter.unusedVariables false
set_option linter.unusedSimpArgs false
theorem ow_form {α : Type} {e sz : Nat} {R : World → List Nat → List Value → α → Prop} {w : World} {D : List Nat} {v : Value} {l : List α} (h : owRow e sz R w D v l) (hl : 0 < l.length) : ∃ g cap, v = .slice (some ⟨g, 0, none⟩) l.length cap ∧ g ∈ D := by
  have hin := fun k hk => own_in h (k := k) hk
  obtain ⟨xs, Di, h1, _⟩ := h
  obtain ⟨g, cap, rfl, _⟩ := h1.form hl
  exact ⟨g, cap, rfl, hin g rfl⟩
/-- What is left behind the first element. -/
theorem rd_tail {α : Type} {sz : Nat} {K : World → List Value → α → Prop} {w : World} {ad : Addr} {c : Nat} {x : α} {l : List α} (h : rdRow sz K w (.slice (some ad) (l.length + 1) c) (x :: l)) :
    rdRow sz K w (.slice (some (ad.add sz)) l.length (c - 1)) l := by
  obtain ⟨A, c', e, h1, h2, _, h3⟩ := h
  injection e with e1 e2 e3
  subst e1 e3
  simp only [List.length_cons] at h1 h2
  refine ⟨_, _, rfl, by omega, by omega, (fun h => by cases h), fun i y hy => ?_⟩
  obtain ⟨ad', cs, e, hk, hc⟩ := h3 (i + 1) y (by simpa using hy)
  injection e with e
  subst e
  refine ⟨_, cs, rfl, hk, fun j u hu => ?_⟩
  have := hc j u hu
  rw [show ((ad.add sz).add (i * sz + j)) = ad.add ((i + 1) * sz + j) from ?_]
  · exact this
  · rw [Nat.succ_mul, show i * sz + sz + j = sz + (i * sz + j) by omega]
    unfold Addr.add
    by_cases h1 : sz = 0
    · simp [h1]
    · by_cases h2 : i * sz + j = 0
      · simp [h1, h2]
      · simp [h1, h2, Nat.add_assoc]
        intro h3 h4
        exact h2 (by rw [h3, h4])
theorem Rests.imp {D : List Nat} {w : World} {K K' : World → Prop} (h : Rests D w K) (hi : ∀ w, K w → K' w) : Rests D w K' := fun w' hw' => hi w' (h w' hw')
set_option maxHeartbeats 2000000 in
set_option maxRecDepth 100000 in
theorem l04Any_calls (W w : World) (C : Nat) (hc : HasCur W w C) :
    Calls Try.prog 129 #[.pointer (some ⟨C, 0, none⟩)] w fun e w' => ∃ v D l, e = .returned v ∧ Rests D w' (fun w => rdRegs w v l) ∧ New w w' D ∧ l.length ≤ 4 ∧ Went W w w' C := by
  have HL := Aside.mk hc.lt
  have HW := Aside.mk (Went.refl hc)
  clear hc
  go_enter Try.func129, Try.ntmps129
  go_wp2_with (fail)
  refine (l01Below_calls W _ C _ HW.out.1).mono ?_
  rintro e w1 ⟨k, rfl, hk0, _, hk1, hw⟩
  replace HW := Aside.mk (HW.out.trans hw)
  clear hw
  go_wp2_with (fail)
  refine (l04Flags_calls W _ C HW.out.1).mono ?_
  rintro e w2 ⟨v, D, l, rfl, ho, hn, hl, _, hw⟩
  obtain ⟨g, cap, rfl, hg⟩ := ow_form ho (by omega)
  have HO := Aside.mk ho
  have HN := Aside.mk (hn.from (w0 := w) HW.out.size)
  have HG := Aside.mk hg
  have HLE := Aside.mk hl
  replace HW := Aside.mk (HW.out.trans hw)
  clear hw ho hn hg hk0 hk1 hl
  by_cases h0 : k = 0
  · subst h0
    go_wp2_with (at_builtin; refine list_snoc el_reg ow_reg (owRow_alloc ow_reg HO.out (.cells #[.int .i64 0, .int .i64 0, .int .i64 0] 136)) (w0 := w) (y := (⟨0, 0, 0⟩ : Reg)) (Dx := []) (cs := [.int .i64 0, .int .i64 0, .int .i64 0]) ⟨rfl, rfl⟩ (by rw [List.append_nil]; exact HN.out.alloc _) (by have := HW.out.size; simp; omega) (.tmp 12) (.tmp 14) (by rfl) (by rfl) (by rfl) w2.heap.size (by rfl) (Loc.new w2 _ _) (by have := HLE.out; omega) (by have := HLE.out; omega) (w2.heap.size + 1) (by simp) (fun g2 cap2 w' D' hk1 hk2 hk3 hk => ?_); have HO3 := Aside.mk hk1; have HN3 := Aside.mk hk2; have HW3 := Aside.mk ((HW.out.alloc (.cells #[.int .i64 0, .int .i64 0, .int .i64 0] 136)).keep hk (fun b hb => (HN.out.2 b hb).1)); clear hk1 hk2 hk3 hk)
    go_ret
    exact ⟨_, _, _, rfl, Rests.of_ow ow_reg HO3.out, HN3.out, by have := HLE.out; simp; omega, HW3.out⟩
  · by_cases h1 : k = 1
    · subst h1
      clear h0
      match l, HLE, HO with
      | a :: l2, HLE, HO =>
        have hl2 : l2.length = 2 := by have := HLE.out; simpa using this
        have hc1 : ¬ cap = 1 := by
          obtain ⟨A', c2, e2, h1, _⟩ := rd_len (owRow_rd ow_reg HO.out)
          injection e2 with _ _ e3
          simp only [List.length_cons] at h1
          omega
        go_wp2
        go_ret
        refine ⟨_, D, l2, rfl, (Rests.of_ow ow_reg HO.out).imp fun w h => ?_, HN.out, by omega, HW.out⟩
        have := rd_tail (show rdRegs w (.slice (some ⟨g, 0, none⟩) (l2.length + 1) cap) (a :: l2) from h)
        rw [hl2] at this
        exact this
    · by_cases h2 : k = 2
      · subst h2
        clear h0 h1
        go_wp2_with (fail)
        refine (l01Below_calls W _ C _ HW.out.1).mono ?_
        rintro e w3 ⟨k, rfl, hk0, _, hk1, hw⟩
        obtain ⟨i, rfl⟩ := Int.eq_ofNat_of_zero_le hk0
        have hi : i < 3 := by have := hk1 (by decide); omega
        clear hk0 hk1
        replace HO := Aside.mk (owRow_went ow_reg HO.out hw (HN.out.offC HL.out))
        replace HN := Aside.mk (HN.out.mono hw.size)
        replace HW := Aside.mk (HW.out.trans hw)
        clear hw
        go_wp2_with (fail)
        refine (l03Reg_calls W _ C HW.out.1).mono ?_
        rintro e w4 ⟨r, rfl, hw⟩
        replace HO := Aside.mk (owRow_went ow_reg HO.out hw (HN.out.offC HL.out))
        replace HN := Aside.mk (HN.out.mono hw.size)
        replace HW := Aside.mk (HW.out.trans hw)
        clear hw
        obtain ⟨g', c', hv, hg1, hg2, hcell, hfr, F⟩ := owRow_put ow_reg HO.out HN.out i (by have := HLE.out; omega) (by decide) HW.out.size
        injection hv with hv1 _ hv2
        injection hv1 with hv1
        injection hv1 with hv1
        subst hv1 hv2
        obtain ⟨u0, x0⟩ := hcell 0 (by decide)
        obtain ⟨u1, x1⟩ := hcell 1 (by decide)
        obtain ⟨u2, x2⟩ := hcell 2 (by decide)
        rw [Nat.add_zero] at x0
        have f0 := hfr (i * 3)
        have f1 := hfr (i * 3 + 1)
        have f2 := hfr (i * 3 + 2)
        obtain ⟨D2, k1, k2⟩ := F w4 [] [.int .i64 r.v, .int .i64 r.t, .int .i64 r.b] r (Below.refl _ _) ⟨rfl, rfl⟩ New.nil
        have K1 := Aside.mk k1
        have K2 := Aside.mk k2
        have HWs := Aside.mk (HW.out.keep (sets_keep g [.int .i64 r.v, .int .i64 r.t, .int .i64 r.b] (i * 3) w4) (by simpa using hg1))
        have p0 : (0 : Int) ≤ (i : Int) := by omega
        have p1 : (i : Int) < (l.length : Int) := by have := HLE.out; omega
        clear F hcell hfr k1 k2
        go_wp2
        go_ret
        exact ⟨.slice (some ⟨g, 0, none⟩) l.length cap, D2, l.set i r, rfl, Rests.of_ow ow_reg K1.out, K2.out, by have := HLE.out; simp; omega, HWs.out⟩
      · go_wp2
        go_ret
        exact ⟨.slice (some ⟨g, 0, none⟩) l.length cap, D, l, rfl, Rests.of_ow ow_reg HO.out, HN.out, by have := HLE.out; omega, HW.out⟩
end Go.Proofs.Ytjfjpabfkembcaa.H
