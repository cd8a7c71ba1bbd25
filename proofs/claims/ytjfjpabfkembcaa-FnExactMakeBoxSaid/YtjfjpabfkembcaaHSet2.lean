/- SetFlags, the program's and the reference's: the walks. -/
import Derived.Test.YtjfjpabfkembcaaHSet
import Derived.Deep.RegionWith
namespace Go.Proofs.Ytjfjpabfkembcaa.H
open Go.RowKit
set_option linter.unusedVariables false
set_option linter.unusedSimpArgs false
theorem bits_at (n : Int) (i : Nat) (h0 : 0 ≤ n) (h7 : n ≤ 7) (hi : i < 3) : bits .and .i64 (n / 2 ^ i) 1 = bitAt n i := by
  have hn : n = 0 ∨ n = 1 ∨ n = 2 ∨ n = 3 ∨ n = 4 ∨ n = 5 ∨ n = 6 ∨ n = 7 := by omega
  have hj : i = 0 ∨ i = 1 ∨ i = 2 := by omega
  rcases hj with rfl | rfl | rfl <;> rcases hn with rfl | rfl | rfl | rfl | rfl | rfl | rfl | rfl <;> decide +kernel
theorem bitAt_in (n : Int) (i : Nat) : 0 ≤ bitAt n i ∧ bitAt n i ≤ 1 := by unfold bitAt; omega
set_option maxHeartbeats 2000000 in
set_option maxRecDepth 100000 in
theorem setFlags_calls (w : World) (v : Value) (l : List Reg) (n t b : Int) (h : rdRegs w v l) (hl : l.length ≤ 4000000) :
    Calls Try.prog 43 #[v, .int .i64 n, .agg #[.int .i64 t, .int .i64 b]] w (RetRow owRegs (setFlags l n t b) w) := by
  have HE : Aside (setFlags l n t b = if flagsOk l && isIn n 0 7 then setFrom n t b 0 l else l) := ⟨rfl⟩
  obtain ⟨A, c, rfl, _, hm⟩ := rd_len h
  have HR := Aside.mk h
  clear h
  rcases h1 : flagsOk l with _ | _
  rotate_left
  rcases h2 : isIn n 0 7 with _ | _
  rotate_left
  all_goals
    rw [h1] at HE
    try rw [h2] at HE
    have HH := Aside.mk h1
    clear h1
    try (have HG := Aside.mk h2; clear h2)
    go_enter Try.func43, Try.ntmps43
    go_wp2_with (fail)
    refine (copyRegs_calls _ _ l (rdRegs_mov (by (repeat (first | (with_reducible exact HB.out) | (with_reducible exact Below.refl _ _) | (with_reducible refine below_set ?_ (by first | omega | (dsimp only; omega) | (simp; done) | (simp; omega)) _) | (with_reducible refine below_alloc ?_ _) | (with_reducible refine below_drewN ?_ _) | (with_reducible refine below_drew ?_)))) HR.out) hl).mono ?_
    rintro e w1 ⟨ov, D, rfl, hO, hN, hb⟩
    obtain ⟨Ao, co, rfl⟩ := cell_own ow_reg hO
    have L0 := Aside.mk ((Loc.new w #[.int .i64 t, .int .i64 b] 29).below hb)
    have l0 := L0.out.cells
    have HB := Aside.mk (below_step (w0 := w) (by (repeat (first | (with_reducible exact HB.out) | (with_reducible exact Below.refl _ _) | (with_reducible refine below_set ?_ (by first | omega | (dsimp only; omega) | (simp; done) | (simp; omega)) _) | (with_reducible refine below_alloc ?_ _) | (with_reducible refine below_drewN ?_ _) | (with_reducible refine below_drew ?_)))) hb)
    have HO := Aside.mk hO
    have HN := Aside.mk hN
    clear hb hO hN
    go_wp2_with (fail)
    refine (flagsOk_calls _ _ l (rdRegs_mov HB.out HR.out)).mono ?_
    rintro e w2 ⟨rfl, hb⟩
    rw [HH.out]
    replace L0 := Aside.mk (L0.out.below hb)
    clear l0
    have l0 := L0.out.cells
    replace HB := Aside.mk (below_step HB.out hb)
    replace HO := Aside.mk (owRow_below ow_reg HO.out hb)
    replace HN := Aside.mk (HN.out.mono hb.size)
    clear hb
    try
      go_wp2_with (go_at_call 115; refine (isFlags_calls _ n).mono ?_; rintro e w3 ⟨rfl, hb⟩; rw [HG.out]; replace L0 := Aside.mk (L0.out.below hb); replace HB := Aside.mk (below_step HB.out hb); replace HO := Aside.mk (owRow_below ow_reg HO.out hb); replace HN := Aside.mk (HN.out.mono hb.size); clear l0 hb; have l0 := L0.out.cells)
    try
      (go_ret; exact ⟨_, D, rfl, by rw [HE.out]; exact HO.out, HN.out.from (by simp), HB.out⟩)
  have HL3 : Aside (l.length = 3) := ⟨by have := HH.out; simp [flagsOk] at this; exact this.2⟩
  have hn := isIn_iff.1 HG.out
  obtain ⟨hn0, hn7⟩ := hn
  obtain ⟨wa, hwa⟩ : ∃ wa : World, wa = w.alloc (.cells #[.int .i64 t, .int .i64 b] 29) := ⟨_, rfl⟩
  rw [← hwa] at HN
  have HZ : Aside (wa.heap.size = w.heap.size + 1) := ⟨by rw [hwa]; simp⟩
  clear hwa
  go_loopw [24] (fun v wr => ∃ (i : Nat) (d : List Reg) (D : List Nat), i ≤ l.length ∧ v = .int .i64 i ∧ d.length = i ∧ Aside (setFrom n t b 0 l = d ++ setFrom n t b i (l.drop i)) ∧ Aside (Loc wr w.heap.size #[.int .i64 t, .int .i64 b] 29) ∧ Aside (owRegs wr D (.slice Ao l.length co) (d ++ l.drop i)) ∧ Aside (New wa wr D) ∧ Aside (Below w.heap.size w wr)) (fun v _ => l.length - (intOf v).toNat)
  case atStart => exact ⟨0, [], D, Nat.zero_le _, rfl, rfl, ⟨rfl⟩, L0, HO, HN, HB⟩
  case round =>
    clear L0 HB l0 HO HN
    obtain ⟨i, d, D, hi, rfl, hd, HE2, L0, HO, HN, HB⟩ := hrel
    have l0 := L0.out.cells
    have q0 := L0.out.lt
    by_cases hlt : i < l.length
    · have hx : i < (d ++ l.drop i).length := by rw [len_at hd hi]; exact hlt
      obtain ⟨g, c', hv, hg1, hg2, hcell, hfr, F⟩ := owRow_put ow_reg HO.out HN.out i hx (by decide) (by have := HZ.out; omega)
      have hA : Ao = some ⟨g, 0, none⟩ := by injection hv
      subst hA
      obtain ⟨ad, hA, x0, x1, x2⟩ := rdRegs_at (owRow_rd ow_reg HO.out) i hx
      obtain rfl : ad = ⟨g, 0, none⟩ := by injection hA with hA; exact hA.symm
      rw [get_at hd hlt, add_zero_] at x0 x1 x2
      have f0 := hfr (i * 3)
      have f1 := hfr (i * 3 + 1)
      have f2 := hfr (i * 3 + 2)
      have HF := Aside.mk F
      have g1 : w.heap.size + 1 ≤ g := by have := HZ.out; omega
      have hds := List.drop_eq_getElem_cons hlt
      clear F hcell hfr hv hA
      have HS := Aside.mk (fun (m : Reg) => set_at hd hlt m)
      have HB2 : Aside (∀ (m : Reg) (k : List Reg), setFrom n t b i (m :: k) = (if m.v = bitAt n i then m else putReg m (bitAt n i) t b) :: setFrom n t b (i + 1) k) := ⟨fun _ _ => rfl⟩
      have HD := Aside.mk hds
      clear hds
      generalize l[i] = m at x0 x1 x2 HS HD
      have hi3 : i < 3 := by have := HL3.out; omega
      have hbit := bits_at n i hn0 hn7 hi3
      generalize bitAt n i = bt at hbit HB2
      by_cases hv : m.v = bt
      · go_wp2_with (fail)
        go_roundw
        case rel => exact ⟨i + 1, d ++ [m], D, by omega, by go_num, by simp [hd], ⟨by rw [HE2.out, HD.out, HB2.out, if_pos hv]; simp⟩, ⟨L0.out.alloc _⟩, ⟨by have := HO.out; rw [HD.out] at this; simpa using owRow_alloc ow_reg this _⟩, ⟨HN.out.alloc _⟩, ⟨by (repeat (first | (with_reducible exact HB.out) | (with_reducible exact Below.refl _ _) | (with_reducible refine below_set ?_ (by first | omega | (dsimp only; omega) | (simp; done) | (simp; omega)) _) | (with_reducible refine below_alloc ?_ _) | (with_reducible refine below_drewN ?_ _) | (with_reducible refine below_drew ?_)))⟩⟩
        case measure => simp [intOf]; omega
      · go_wp2_with (fail)
        refine (putReg_calls _ m bt t b).mono ?_
        rintro e w4 ⟨rfl, hb⟩
        have hb' := below_step (w0 := wr) (by (repeat (first | (with_reducible exact HB.out) | (with_reducible exact Below.refl _ _) | (with_reducible refine below_set ?_ (by first | omega | (dsimp only; omega) | (simp; done) | (simp; omega)) _) | (with_reducible refine below_alloc ?_ _) | (with_reducible refine below_drewN ?_ _) | (with_reducible refine below_drew ?_)))) hb
        have y0 := cell_b hb' x0
        have y1 := cell_b hb' x1
        have y2 := cell_b hb' x2
        have e0 := (hb'.frozen (p := ⟨g, i * 3, none⟩) hg2).trans f0
        have e1 := (hb'.frozen (p := ⟨g, i * 3 + 1, none⟩) hg2).trans f1
        have e2 := (hb'.frozen (p := ⟨g, i * 3 + 2, none⟩) hg2).trans f2
        replace L0 := Aside.mk (L0.out.below hb')
        have HT : Aside (setFrom n t b 0 l = d ++ [putReg m bt t b] ++ setFrom n t b (i + 1) (l.drop (i + 1))) := ⟨by rw [HE2.out, HD.out, HB2.out, if_neg hv]; simp⟩
        generalize putReg m bt t b = r at HT
        obtain ⟨D2, k1, k2⟩ := HF.out w4 [] [.int .i64 r.v, .int .i64 r.t, .int .i64 r.b] r hb' ⟨rfl, rfl⟩ New.nil
        rw [HS.out] at k1
        have K1 := Aside.mk k1
        have K2 := Aside.mk k2
        replace HB := Aside.mk (below_step HB.out hb')
        have hw4 := hb'.size
        clear k1 k2 hb hb' l0 x0 x1 x2 f0 f1 f2 HF HS
        go_wp2_with (fail)
        go_roundw
        case rel => exact ⟨i + 1, d ++ [r], D2, by omega, by go_num, by simp [hd], HT, ⟨((L0.out.set (by simp; omega) _).set (by simp; omega) _).set (by simp; omega) _⟩, K1, K2, ⟨by (repeat (first | (with_reducible exact HB.out) | (with_reducible exact Below.refl _ _) | (with_reducible refine below_set ?_ (by first | omega | (dsimp only; omega) | (simp; done) | (simp; omega)) _) | (with_reducible refine below_alloc ?_ _) | (with_reducible refine below_drewN ?_ _) | (with_reducible refine below_drew ?_)))⟩⟩
        case measure => simp [intOf]; omega
    · obtain rfl : i = l.length := by omega
      clear hlt
      have HF : Aside (d = setFrom n t b 0 l) := ⟨by rw [HE2.out]; simp [setFrom]⟩
      have HO2 : Aside (owRegs wr D (.slice Ao l.length co) (setFrom n t b 0 l)) := ⟨by have := HO.out; rw [List.drop_length, List.append_nil] at this; rw [← HF.out]; exact this⟩
      clear HE2 HF HO
      go_wp2
      go_ret
      exact ⟨_, D, rfl, by rw [HE.out]; exact HO2.out, HN.out.from (by have := HZ.out; omega), HB.out⟩
theorem rem_at (n : Int) (i : Nat) (h0 : 0 ≤ n) (h7 : n ≤ 7) (hi : i < 3) : (n / 2 ^ i).tmod 2 = bitAt n i := by
  have : 0 ≤ n / 2 ^ i := Int.ediv_nonneg h0 (by exact_mod_cast Nat.zero_le _)
  rw [Int.tmod_eq_emod_of_nonneg this]; rfl
set_option maxHeartbeats 2000000 in
set_option maxRecDepth 100000 in
theorem specSetFlags_calls (w : World) (v : Value) (l : List Reg) (n t b : Int) (h : rdRegs w v l) (hl : l.length ≤ 4000000) :
    Calls Try.prog 49 #[v, .int .i64 n, .agg #[.int .i64 t, .int .i64 b]] w (RetRow owRegs (setFlags l n t b) w) := by
  have HE : Aside (setFlags l n t b = if flagsOk l && isIn n 0 7 then setFrom n t b 0 l else l) := ⟨rfl⟩
  obtain ⟨A, c, rfl, _, hm⟩ := rd_len h
  have HR := Aside.mk h
  clear h
  rcases h1 : flagsOk l with _ | _
  rotate_left
  rcases h2 : isIn n 0 7 with _ | _
  rotate_left
  all_goals
    rw [h1] at HE
    try rw [h2] at HE
    have HH := Aside.mk h1
    clear h1
    try (have HG := Aside.mk h2; clear h2)
    go_enter Try.func49, Try.ntmps49
    go_wp2_with (fail)
    refine (l04Copy_calls _ _ l (rdRegs_mov (by (repeat (first | (with_reducible exact HB.out) | (with_reducible exact Below.refl _ _) | (with_reducible refine below_set ?_ (by first | omega | (dsimp only; omega) | (simp; done) | (simp; omega)) _) | (with_reducible refine below_alloc ?_ _) | (with_reducible refine below_drewN ?_ _) | (with_reducible refine below_drew ?_)))) HR.out) hl).mono ?_
    rintro e w1 ⟨ov, D, rfl, hO, hN, hb⟩
    obtain ⟨Ao, co, rfl⟩ := cell_own ow_reg hO
    have L0 := Aside.mk ((Loc.new w #[.int .i64 t, .int .i64 b] 29).below hb)
    have l0 := L0.out.cells
    have HB := Aside.mk (below_step (w0 := w) (by (repeat (first | (with_reducible exact HB.out) | (with_reducible exact Below.refl _ _) | (with_reducible refine below_set ?_ (by first | omega | (dsimp only; omega) | (simp; done) | (simp; omega)) _) | (with_reducible refine below_alloc ?_ _) | (with_reducible refine below_drewN ?_ _) | (with_reducible refine below_drew ?_)))) hb)
    have HO := Aside.mk hO
    have HN := Aside.mk hN
    clear hb hO hN
    go_wp2_with (fail)
    refine (specFlagsOk_calls _ _ l (rdRegs_mov HB.out HR.out)).mono ?_
    rintro e w2 ⟨rfl, hb⟩
    rw [HH.out]
    replace L0 := Aside.mk (L0.out.below hb)
    clear l0
    have l0 := L0.out.cells
    replace HB := Aside.mk (below_step HB.out hb)
    replace HO := Aside.mk (owRow_below ow_reg HO.out hb)
    replace HN := Aside.mk (HN.out.mono hb.size)
    clear hb
    try
      go_wp2_with (go_at_call 132; refine (l01In_calls _ _ _ _).mono ?_; rintro e w3 ⟨rfl, hb⟩; rw [HG.out]; replace L0 := Aside.mk (L0.out.below hb); replace HB := Aside.mk (below_step HB.out hb); replace HO := Aside.mk (owRow_below ow_reg HO.out hb); replace HN := Aside.mk (HN.out.mono hb.size); clear l0 hb; have l0 := L0.out.cells)
    try
      (go_ret; exact ⟨_, D, rfl, by rw [HE.out]; exact HO.out, HN.out.from (by simp), HB.out⟩)
  have HL3 : Aside (l.length = 3) := ⟨by have := HH.out; simp [flagsOk] at this; exact this.2⟩
  have hn := isIn_iff.1 HG.out
  obtain ⟨hn0, hn7⟩ := hn
  obtain ⟨wa, hwa⟩ : ∃ wa : World, wa = w.alloc (.cells #[.int .i64 t, .int .i64 b] 29) := ⟨_, rfl⟩
  rw [← hwa] at HN
  have HZ : Aside (wa.heap.size = w.heap.size + 1) := ⟨by rw [hwa]; simp⟩
  clear hwa
  go_wp2
  go_loopw [8] (fun v wr => ∃ (i : Nat) (d : List Reg) (D : List Nat), i ≤ l.length ∧ v = .int .i64 i ∧ d.length = i ∧ Aside (setFrom n t b 0 l = d ++ setFrom n t b i (l.drop i)) ∧ Aside (Loc wr w.heap.size #[.int .i64 t, .int .i64 b] 29) ∧ Aside (owRegs wr D (.slice Ao l.length co) (d ++ l.drop i)) ∧ Aside (New wa wr D) ∧ Aside (Below w.heap.size w wr)) (fun v _ => l.length - (intOf v).toNat)
  case atStart => exact ⟨0, [], D, Nat.zero_le _, rfl, rfl, ⟨rfl⟩, L0, HO, HN, HB⟩
  case round =>
    clear L0 HB l0 HO HN
    obtain ⟨i, d, D, hi, rfl, hd, HE2, L0, HO, HN, HB⟩ := hrel
    have l0 := L0.out.cells
    have q0 := L0.out.lt
    by_cases hlt : i < l.length
    · have hx : i < (d ++ l.drop i).length := by rw [len_at hd hi]; exact hlt
      obtain ⟨g, c', hv, hg1, hg2, hcell, hfr, F⟩ := owRow_put ow_reg HO.out HN.out i hx (by decide) (by have := HZ.out; omega)
      have hA : Ao = some ⟨g, 0, none⟩ := by injection hv
      subst hA
      obtain ⟨ad, hA, x0, x1, x2⟩ := rdRegs_at (owRow_rd ow_reg HO.out) i hx
      obtain rfl : ad = ⟨g, 0, none⟩ := by injection hA with hA; exact hA.symm
      rw [get_at hd hlt, add_zero_] at x0 x1 x2
      have f0 := hfr (i * 3)
      have f1 := hfr (i * 3 + 1)
      have f2 := hfr (i * 3 + 2)
      have HF := Aside.mk F
      have g1 : w.heap.size + 1 ≤ g := by have := HZ.out; omega
      have hds := List.drop_eq_getElem_cons hlt
      clear F hcell hfr hv hA
      have HS := Aside.mk (fun (m : Reg) => set_at hd hlt m)
      have HB2 : Aside (∀ (m : Reg) (k : List Reg), setFrom n t b i (m :: k) = (if m.v = bitAt n i then m else putReg m (bitAt n i) t b) :: setFrom n t b (i + 1) k) := ⟨fun _ _ => rfl⟩
      have HD := Aside.mk hds
      clear hds
      generalize l[i] = m at x0 x1 x2 HS HD
      have hi3 : i < 3 := by have := HL3.out; omega
      have hbit := rem_at n i hn0 hn7 hi3
      generalize bitAt n i = bt at hbit HB2
      by_cases hv : m.v = bt
      · go_wp2_with (fail)
        go_roundw
        case rel => exact ⟨i + 1, d ++ [m], D, by omega, by go_num, by simp [hd], ⟨by rw [HE2.out, HD.out, HB2.out, if_pos hv]; simp⟩, L0, ⟨by have := HO.out; rw [HD.out] at this; simpa using this⟩, HN, HB⟩
        case measure => simp [intOf]; omega
      · have HT : Aside (setFrom n t b 0 l = d ++ [putReg m bt t b] ++ setFrom n t b (i + 1) (l.drop (i + 1))) := ⟨by rw [HE2.out, HD.out, HB2.out, if_neg hv]; simp⟩
        have HI := Aside.mk hv
        obtain ⟨r, hr⟩ : ∃ r, r = putReg m bt t b := ⟨_, rfl⟩
        rw [← hr] at HT
        have HP := Aside.mk hr
        clear hr
        go_wp2_with (fail)
        go_region_with (go_at_call 133; refine (specPutReg_calls _ m bt t b).mono ?_; rintro e w4 ⟨rfl, hb⟩; rw [← HP.out]; have hb' := below_step (w0 := wr) (by (repeat (first | (with_reducible exact HB.out) | (with_reducible exact Below.refl _ _) | (with_reducible refine below_set ?_ (by first | omega | (dsimp only; omega) | (simp; done) | (simp; omega)) _) | (with_reducible refine below_alloc ?_ _) | (with_reducible refine below_drewN ?_ _) | (with_reducible refine below_drew ?_)))) hb; have y0 := cell_b hb' x0; have y1 := cell_b hb' x1; have y2 := cell_b hb' x2; have e0 := (hb'.frozen (p := ⟨g, i * 3, none⟩) hg2).trans f0; have e1 := (hb'.frozen (p := ⟨g, i * 3 + 1, none⟩) hg2).trans f1; have e2 := (hb'.frozen (p := ⟨g, i * 3 + 2, none⟩) hg2).trans f2; have HQ := Aside.mk hb'; have hw4 := hb'.size; clear hb hb' l0 x0 x1 x2 f0 f1 f2)
        all_goals
          obtain ⟨D2, k1, k2⟩ := HF.out w4 [] [.int .i64 r.v, .int .i64 r.t, .int .i64 r.b] r HQ.out ⟨rfl, rfl⟩ New.nil
          rw [HS.out] at k1
          have K1 := Aside.mk k1
          have K2 := Aside.mk k2
          replace L0 := Aside.mk (L0.out.below HQ.out)
          replace HB := Aside.mk (below_step HB.out HQ.out)
          clear k1 k2 HF HS HQ HP
          go_wp2_with (fail)
          go_roundw
          case rel => exact ⟨i + 1, d ++ [r], D2, by omega, by go_num, by simp [hd], HT, ⟨((L0.out.set (by simp; omega) _).set (by simp; omega) _).set (by simp; omega) _⟩, K1, K2, ⟨by (repeat (first | (with_reducible exact HB.out) | (with_reducible exact Below.refl _ _) | (with_reducible refine below_set ?_ (by first | omega | (dsimp only; omega) | (simp; done) | (simp; omega)) _) | (with_reducible refine below_alloc ?_ _) | (with_reducible refine below_drewN ?_ _) | (with_reducible refine below_drew ?_)))⟩⟩
          case measure => simp [intOf]; omega
    · obtain rfl : i = l.length := by omega
      clear hlt
      have HF : Aside (d = setFrom n t b 0 l) := ⟨by rw [HE2.out]; simp [setFrom]⟩
      have HO2 : Aside (owRegs wr D (.slice Ao l.length co) (setFrom n t b 0 l)) := ⟨by have := HO.out; rw [List.drop_length, List.append_nil] at this; rw [← HF.out]; exact this⟩
      clear HE2 HF HO
      go_wp2
      go_ret
      exact ⟨_, D, rfl, by rw [HE.out]; exact HO2.out, HN.out.from (by have := HZ.out; omega), HB.out⟩
end Go.Proofs.Ytjfjpabfkembcaa.H
