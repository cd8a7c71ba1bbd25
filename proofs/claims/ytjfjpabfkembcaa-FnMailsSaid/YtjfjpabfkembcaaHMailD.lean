/- Drawn mails: the walks. A long text of one byte: the walk. A drawn mail of whatever kind: the walk. A text with something else in it: the walk. A pair of drawn mails; what the statements draw of mails: the walks. Printed by this session's gen_pair.py. What the statements draw of mails: the walks. -/
import Derived.Test.YtjfjpabfkembcaaHDraw5
import Derived.Test.YtjfjpabfkembcaaHTurn3
import Derived.Test.YtjfjpabfkembcaaHTo
import Derived.Test.YtjfjpabfkembcaaHText
import Derived.Test.YtjfjpabfkembcaaHMailsP
import Derived.Test.YtjfjpabfkembcaaHCopy2
import Derived.Test.YtjfjpabfkembcaaHRegZ
namespace Go.Proofs.Ytjfjpabfkembcaa.H
open Go.RowKit
set_option linter.unusedVariables false
set_option linter.unusedSimpArgs false
/-! Drawn mails: the walks. -/
set_option maxHeartbeats 2000000 in
set_option maxRecDepth 100000 in
theorem l01Pick_calls (W w : World) (C g n cap m : Nat) (hc : HasCur W w C) (hg : g ≠ C) (hn : 0 < n) (hm : n ≤ 1000) (h : ∀ k, k < n → ∃ s : ByteArray, w.cell? ⟨g, k, none⟩ = some (.string s) ∧ s.size ≤ m) :
    Calls Try.prog 168 #[.pointer (some ⟨C, 0, none⟩), .slice (some ⟨g, 0, none⟩) n cap] w fun e w' => ∃ s : ByteArray, e = .returned (.string s) ∧ s.size ≤ m ∧ Went W w w' C := by
  have HC := Aside.mk hc
  have HR := Aside.mk h
  clear hc h
  go_enter Try.func168, Try.ntmps168
  go_wp2_with (fail)
  refine (l01Below_calls W _ C _ HC.out).mono ?_
  rintro e w1 ⟨x, rfl, hx0, _, hx1, hw⟩
  obtain ⟨k, rfl⟩ := Int.eq_ofNat_of_zero_le hx0
  have hk : k < n := by have := hx1 (by omega); omega
  obtain ⟨s, x0, hs⟩ := HR.out k hk
  have x1 := cell_went x0 hw hg
  have HW := Aside.mk hw
  have HS := Aside.mk hs
  have p1 : (k : Int) < (n : Int) := by omega
  clear hw x0 hx1 hs
  go_wp2
  go_ret
  exact ⟨_, rfl, HS.out, HW.out⟩
set_option maxHeartbeats 2000000 in
set_option maxRecDepth 100000 in
theorem l05Text_calls (W w : World) (C : Nat) (hc : HasCur W w C) :
    Calls Try.prog 170 #[.pointer (some ⟨C, 0, none⟩)] w fun e w' => ∃ s : ByteArray, e = .returned (.string s) ∧ s.size ≤ 10 ∧ Went W w w' C := by
  have HL := Aside.mk hc.lt
  have HW := Aside.mk (Went.refl hc)
  clear hc
  obtain ⟨t0, h0⟩ : ∃ t : ByteArray, t = ⟨#[104, 101, 108, 108, 111]⟩ := ⟨_, rfl⟩
  obtain ⟨t1, h1⟩ : ∃ t : ByteArray, t = ⟨#[104, 105, 10]⟩ := ⟨_, rfl⟩
  obtain ⟨t2, h2⟩ : ∃ t : ByteArray, t = ⟨#[]⟩ := ⟨_, rfl⟩
  obtain ⟨t3, h3⟩ : ∃ t : ByteArray, t = ⟨#[116, 101, 120, 116, 32, 111, 102, 32, 105, 116]⟩ := ⟨_, rfl⟩
  obtain ⟨t4, h4⟩ : ∃ t : ByteArray, t = ⟨#[0, 255]⟩ := ⟨_, rfl⟩
  obtain ⟨t5, h5⟩ : ∃ t : ByteArray, t = ⟨#[97, 32, 98]⟩ := ⟨_, rfl⟩
  have HZ : Aside (t0.size ≤ 10 ∧ t1.size ≤ 10 ∧ t2.size ≤ 10 ∧ t3.size ≤ 10 ∧ t4.size ≤ 10 ∧ t5.size ≤ 10) := ⟨by subst h0 h1 h2 h3 h4 h5; decide⟩
  have H0 := Aside.mk h0
  have H1 := Aside.mk h1
  have H2 := Aside.mk h2
  have H3 := Aside.mk h3
  have H4 := Aside.mk h4
  have H5 := Aside.mk h5
  clear h0 h1 h2 h3 h4 h5
  go_enter Try.func170, Try.ntmps170
  go_wp2_with (fail)
  rw [← H0.out, ← H1.out, ← H3.out, ← H4.out, ← H5.out]
  replace HW := Aside.mk (HW.out.alloc (.cells #[.string t0, .string t1, .string ⟨#[]⟩, .string t3, .string t4, .string t5] 9))
  have hcell : ∀ j, j < 6 → (w.alloc (.cells #[.string t0, .string t1, .string ⟨#[]⟩, .string t3, .string t4, .string t5] 9)).cell? ⟨w.heap.size, j, none⟩ = (#[Value.string t0, .string t1, .string ⟨#[]⟩, .string t3, .string t4, .string t5] : Array Value)[j]? := fun j hj => cell_of_row _ _ _ _ _ _ (heap_alloc_new w _)
  refine (l01Pick_calls W _ C _ 6 6 10 HW.out.1 (by have := HL.out; omega) (by decide) (by decide) (fun k hk => ?_)).mono ?_
  · rw [hcell k hk]
    match k, hk with
    | 0, _ => exact ⟨t0, rfl, HZ.out.1⟩
    | 1, _ => exact ⟨t1, rfl, HZ.out.2.1⟩
    | 2, _ => exact ⟨_, rfl, by decide⟩
    | 3, _ => exact ⟨t3, rfl, HZ.out.2.2.2.1⟩
    | 4, _ => exact ⟨t4, rfl, HZ.out.2.2.2.2.1⟩
    | 5, _ => exact ⟨t5, rfl, HZ.out.2.2.2.2.2⟩
  rintro e w1 ⟨s, rfl, hs, hw⟩
  have HS := Aside.mk hs
  replace HW := Aside.mk (HW.out.trans hw)
  clear hw hcell hs
  go_wp2
  go_ret
  exact ⟨_, rfl, HS.out, HW.out⟩
set_option maxHeartbeats 2000000 in
set_option maxRecDepth 100000 in
theorem l05Mail_calls (W w : World) (C : Nat) (hc : HasCur W w C) :
    Calls Try.prog 182 #[.pointer (some ⟨C, 0, none⟩)] w fun e w' => ∃ (g u : Int) (v : Value) (D : List Nat) (l : List Reg) (s : ByteArray), e = .returned (.agg #[.int .i64 g, .int .i64 u, v, .string s]) ∧ owRegs w' D v l ∧ New w w' D ∧ l.length = 3 ∧ s.size ≤ 10 ∧ Went W w w' C := by
  have HL := Aside.mk hc.lt
  have HW := Aside.mk (Went.refl hc)
  clear hc
  go_enter Try.func182, Try.ntmps182
  go_wp2_with (fail)
  replace HW := Aside.mk (HW.out.alloc (.cells #[.int .i64 0, .int .i64 0, .slice none 0 0, .string ⟨#[]⟩] 58))
  have L0 := Aside.mk (Loc.new w #[.int .i64 0, .int .i64 0, .slice none 0 0, .string ⟨#[]⟩] 58)
  refine (l01Below_calls W _ C _ HW.out.1).mono ?_
  rintro e w1 ⟨x, rfl, hx0, _, hx1, hw⟩
  replace hx1 := hx1 (by decide)
  replace L0 := Aside.mk (L0.out.went hw (by have := HL.out; omega))
  replace HW := Aside.mk (HW.out.trans hw)
  clear hw
  go_wp2_with (fail)
  refine (l01Below_calls W _ C _ HW.out.1).mono ?_
  rintro e w2 ⟨y, rfl, hy0, _, hy1, hw⟩
  replace hy1 := hy1 (by decide)
  replace L0 := Aside.mk (L0.out.went hw (by have := HL.out; omega))
  replace HW := Aside.mk (HW.out.trans hw)
  clear hw
  go_wp2_with (fail)
  refine (l04Flags_calls W _ C HW.out.1).mono ?_
  rintro e w3 ⟨v, D, l, rfl, ho, hn, hl, _, hw⟩
  obtain ⟨gg, cap, rfl, hg⟩ := ow_form ho (by omega)
  have HO := Aside.mk ho
  have HN := Aside.mk (hn.from (w0 := w) HW.out.size)
  have HLN : Aside (w.heap.size ∉ D) := ⟨fun hx => by have h1 := (hn.2 _ hx).1; have h2 := L0.out.lt; omega⟩
  have HLE := Aside.mk hl
  replace L0 := Aside.mk (L0.out.went hw (by have := HL.out; omega))
  replace HW := Aside.mk (HW.out.trans hw)
  clear hw ho hn hg hl
  go_wp2_with (fail)
  refine (l05Text_calls W _ C HW.out.1).mono ?_
  rintro e w4 ⟨s, rfl, hs, hw⟩
  replace HO := Aside.mk (owRow_went ow_reg HO.out hw (HN.out.offC HL.out))
  replace HN := Aside.mk (HN.out.mono hw.size)
  replace L0 := Aside.mk (L0.out.went hw (by have := HL.out; omega))
  replace HW := Aside.mk (HW.out.trans hw)
  have HS := Aside.mk hs
  clear hw hs
  have l0 := L0.out.cells
  have q0 := L0.out.lt
  have f0 := L0.out.free
  go_wp2
  refine bodyPost_ret (v := .agg #[.int .i64 (1 + x), .int .i64 (1 + y), .slice (some ⟨gg, 0, none⟩) l.length cap, .string s]) (by simp [results, go_sem, l0, q0]) rfl ⟨_, _, _, D, l, s, rfl, ?_, ?_, HLE.out, HS.out, ?_⟩
  · exact owRow_set ow_reg (owRow_set ow_reg (owRow_set ow_reg (owRow_set ow_reg HO.out (p := ⟨w.heap.size, 0, none⟩) HLN.out _) (p := ⟨w.heap.size, 1, none⟩) HLN.out _) (p := ⟨w.heap.size, 2, none⟩) HLN.out _) (p := ⟨w.heap.size, 3, none⟩) HLN.out _
  · (repeat (first | (with_reducible exact HN.out) | (with_reducible refine New.set ?_ _ _) | (with_reducible refine New.alloc ?_ _) | (with_reducible refine New.drew ?_)))
  · (repeat (first | (with_reducible exact HW.out) | (with_reducible refine Went.set ?_ (by first | omega | (dsimp only; omega) | (simp; done) | (simp; omega) | (have h1_ := HQ1.out; dsimp only; omega) | (have h1_ := HQ1.out; have h2_ := HQ2.out; dsimp only; omega)) _) | (with_reducible refine Went.alloc ?_ _) | (with_reducible refine Went.drewN ?_ _) | (with_reducible refine Went.drew ?_)))
/-! A long text of one byte: the walk. -/
theorem flat_one (n : Nat) (z : Value) : (List.replicate n [z]).flatten = List.replicate n z := by
  induction n with
  | zero => rfl
  | succ n ih => rw [List.replicate_succ, List.flatten_cons, ih, List.replicate_succ]; rfl
theorem HasRow.made (w : World) (n : Nat) : HasRow (w.alloc (.cells (madeCells #[Value.int .u8 0] n) 5)) w.heap.size (List.replicate n 0) := by
  refine ⟨by simp, fun j hj => ?_⟩
  have hh : (w.alloc (.cells (madeCells #[Value.int .u8 0] n) 5)).heap[w.heap.size]? = some (.cells (madeCells #[Value.int .u8 0] n) 5 (0, 0)) := heap_alloc_new w _
  refine ⟨?_, frozen_of_row _ _ _ _ _ hh⟩
  rw [cell_of_row _ _ _ _ _ _ hh]
  have hl := madeCells_list [Value.int .u8 0] n (by simp)
  rw [List.length_singleton, Nat.mul_one] at hl
  rw [List.length_replicate] at hj
  rw [← Array.getElem?_toList, hl]
  rw [flat_one, List.getElem?_replicate, if_pos hj, List.getElem_replicate]
set_option maxHeartbeats 2000000 in
set_option maxRecDepth 100000 in
theorem l01Long_calls (w : World) (n : Nat) (x : Int) (hn : n ≤ 1000) : Calls Try.prog 183 #[.int .i64 n, .int .u8 x] w fun e w' => ∃ s : ByteArray, e = .returned (.string s) ∧ s.size = n ∧ Below w.heap.size w w' := by
  obtain ⟨i0, hi, hz0, hz1, hz2⟩ := info_parts (show (Try.prog.info? 5).map (fun i => (i.zero, i.size, i.bytes)) = some (some (.int .u8 0), 1, 1) by kernel_rfl)
  have hmk := fun W => run_make_rowN (P := Try.prog) 64 5 i0 _ Try.underlying64 hi hz0 .i64 .i64 n n (Nat.le_refl _) (by rw [hz2]; omega) (by omega) W
  rw [hz1] at hmk
  go_enter Try.func183, Try.ntmps183
  go_wp2
  clear hmk hz0 hz1 hz2 hi
  have HO := Aside.mk (HasRow.made w n)
  have HB := Aside.mk (below_alloc (Below.refl w.heap.size w) (.cells (madeCells #[Value.int .u8 0] n) 5))
  go_loopw [6] (fun v wr => ∃ (i : Nat) (L : List Int), i ≤ n ∧ v = .int .i64 i ∧ Aside (L.length = n) ∧ Aside (HasRow wr w.heap.size L) ∧ Aside (Below w.heap.size w wr)) (fun v _ => n - (intOf v).toNat)
  case atStart => exact ⟨0, _, Nat.zero_le _, rfl, ⟨List.length_replicate⟩, HO, HB⟩
  case round =>
    clear HO HB
    obtain ⟨i, L, hi, rfl, HL, HO, HB⟩ := hrel
    by_cases hlt : i < n
    · have hlI : (i : Int) < (n : Int) := by omega
      have HI : Aside (i < L.length) := ⟨by have := HL.out; omega⟩
      obtain ⟨y0, y1⟩ := HO.out.2 i HI.out
      have HO2 := Aside.mk (HO.out.set HI.out x)
      have HL2 : Aside ((L.set i x).length = n) := ⟨by rw [List.length_set]; exact HL.out⟩
      have HB2 := Aside.mk (below_set HB.out (p := ⟨w.heap.size, i, none⟩) (Nat.le_refl _) (.int .u8 x))
      generalize L[i]'HI.out = y at y0
      go_wp2
      go_roundw
      case rel => exact ⟨i + 1, _, by omega, by go_num, HL2, HO2, HB2⟩
      case measure => simp [intOf]; omega
    · have hlI : ¬ ((i : Int) < (n : Int)) := by omega
      have hcv := conv_bytes (HO.out.rd (Nat.le_refl _) (by have := HL.out; omega)) rfl
      rw [HL.out] at hcv
      go_wp2
      go_ret
      exact ⟨_, rfl, by rw [strOfNums_size]; exact HL.out, HB.out⟩
/-! A drawn mail of whatever kind: the walk. -/
theorem Rests.set {D : List Nat} {w : World} {K : World → Prop} (h : Rests D w K) {p : Addr} (hp : p.block ∉ D) (u : Value) : Rests D (w.setCell p u) K :=
  h.move fun b hb => Below.heap_setCell w p u b (fun e => hp (e ▸ hb))
/-- What a drawn mail is. -/
def AnyMail (W w w' : World) (C : Nat) (e : Ending) : Prop := ∃ (m : Mail) (v : Value) (D : List Nat), e = .returned (.agg #[.int .i64 m.g, .int .i64 m.u, v, .string m.tx]) ∧ Rests D w' (fun w => rdRegs w v m.fl) ∧ New w w' D ∧ m.fl.length ≤ 4 ∧ m.tx.size ≤ 61 ∧ Went W w w' C
theorem anyMail_of (W w w' : World) (C : Nat) (g u : Int) (v : Value) (D : List Nat) (l : List Reg) (s : ByteArray) (hr : Rests D w' (fun w => rdRegs w v l)) (hn : New w w' D) (hl : l.length ≤ 4) (hs : s.size ≤ 61) (hw : Went W w w' C) :
    AnyMail W w w' C (.returned (.agg #[.int .i64 g, .int .i64 u, v, .string s])) := ⟨⟨g, u, l, s⟩, v, D, rfl, hr, hn, hl, hs, hw⟩
set_option maxHeartbeats 2000000 in
set_option maxRecDepth 100000 in
theorem l05Any_calls (W w : World) (C : Nat) (hc : HasCur W w C) :
    Calls Try.prog 141 #[.pointer (some ⟨C, 0, none⟩)] w (fun e w' => AnyMail W w w' C e) := by
  have HL := Aside.mk hc.lt
  have HW := Aside.mk (Went.refl hc)
  clear hc
  go_enter Try.func141, Try.ntmps141
  go_wp2_with (fail)
  replace HW := Aside.mk (HW.out.alloc (.cells #[.int .i64 0, .int .i64 0, .slice none 0 0, .string ⟨#[]⟩] 58))
  have L0 := Aside.mk (Loc.new w #[.int .i64 0, .int .i64 0, .slice none 0 0, .string ⟨#[]⟩] 58)
  refine (l01Below_calls W _ C _ HW.out.1).mono ?_
  rintro e w1 ⟨k, rfl, hk0, _, hk1, hw⟩
  replace hk1 := hk1 (by decide)
  replace L0 := Aside.mk (L0.out.went hw (by have := HL.out; omega))
  replace HW := Aside.mk (HW.out.trans hw)
  clear hw
  go_wp2_with (fail)
  refine (l01Below_calls W _ C _ HW.out.1).mono ?_
  rintro e w2 ⟨x, rfl, hx0, _, hx1, hw⟩
  replace hx1 := hx1 (by decide)
  replace L0 := Aside.mk (L0.out.went hw (by have := HL.out; omega))
  replace HW := Aside.mk (HW.out.trans hw)
  clear hw
  go_wp2_with (fail)
  refine (l05Mail_calls W _ C HW.out.1).mono ?_
  rintro e w3 ⟨g, u, v, D, l, s, rfl, ho, hn, hl, hs, hw⟩
  obtain ⟨gg, cap, rfl, hg⟩ := ow_form ho (by omega)
  have HO := Aside.mk ho
  have HN := Aside.mk (hn.from (w0 := w) HW.out.size)
  have HLN : Aside (w.heap.size ∉ D) := ⟨fun hx => by have h1 := (hn.2 _ hx).1; have h2 := L0.out.lt; omega⟩
  have HLE := Aside.mk hl
  have HS := Aside.mk hs
  replace L0 := Aside.mk (L0.out.went hw (by have := HL.out; omega))
  replace HW := Aside.mk (HW.out.trans hw)
  clear hw ho hn hg hl hs
  have HQ1 : Aside (w.heap.size < w3.heap.size) := ⟨L0.out.lt⟩
  have hne : w.heap.size ≠ w3.heap.size := by have := HQ1.out; omega
  have h4 : x.tmod 4 = 0 ∨ x.tmod 4 = 1 ∨ x.tmod 4 = 2 ∨ x.tmod 4 = 3 := by rw [Int.tmod_eq_emod_of_nonneg hx0]; omega
  have h3 : x.tmod 3 = 0 ∨ x.tmod 3 = 1 ∨ x.tmod 3 = 2 := by rw [Int.tmod_eq_emod_of_nonneg hx0]; omega
  have h2 : x.tmod 2 = 0 ∨ x.tmod 2 = 1 := by rw [Int.tmod_eq_emod_of_nonneg hx0]; omega
  clear hx0 hx1 hk0 hk1
  have HLM : Aside (w3.heap.size ∉ D) := ⟨fun hx => by have h1 := (HN.out.2 _ hx).2; omega⟩
  have HSS : Aside (s.size ≤ 61) := ⟨by have := HS.out; omega⟩
  have l0 := L0.out.cells
  have q0 := L0.out.lt
  have f0 := L0.out.free
  by_cases h0 : k = 0
  · subst h0
    clear h3 h2
    rcases h4 with h4 | h4 | h4 | h4
    all_goals go_wp2
    · skip
      refine bodyPost_ret (v := .agg #[.int .i64 0, .int .i64 u, (.slice (some ⟨gg, 0, none⟩) l.length cap), .string s]) (by simp [results, go_sem, l0, q0]) rfl (anyMail_of W w _ C _ _ _ D l _ (Rests.of_ow (e := 136) ow_reg ?_) ?_ (by have := HLE.out; omega) HSS.out ?_)
      · (repeat (first | (with_reducible exact HO.out) | (with_reducible refine owRow_set ow_reg ?_ HLN.out _) | (with_reducible refine owRow_set ow_reg ?_ HLM.out _) | (with_reducible refine owRow_alloc ow_reg ?_ _)))
      · (repeat (first | (with_reducible exact HN.out) | (with_reducible refine New.set ?_ _ _) | (with_reducible refine New.alloc ?_ _) | (with_reducible refine New.drew ?_)))
      · (repeat (first | (with_reducible exact HW.out) | (with_reducible refine Went.set ?_ (by first | omega | (dsimp only; omega) | (simp; done) | (simp; omega) | (have h1_ := HQ1.out; dsimp only; omega) | (have h1_ := HQ1.out; have h2_ := HQ2.out; dsimp only; omega)) _) | (with_reducible refine Went.alloc ?_ _) | (with_reducible refine Went.drewN ?_ _) | (with_reducible refine Went.drew ?_)))
    · skip
      refine bodyPost_ret (v := .agg #[.int .i64 9999, .int .i64 u, (.slice (some ⟨gg, 0, none⟩) l.length cap), .string s]) (by simp [results, go_sem, l0, q0]) rfl (anyMail_of W w _ C _ _ _ D l _ (Rests.of_ow (e := 136) ow_reg ?_) ?_ (by have := HLE.out; omega) HSS.out ?_)
      · (repeat (first | (with_reducible exact HO.out) | (with_reducible refine owRow_set ow_reg ?_ HLN.out _) | (with_reducible refine owRow_set ow_reg ?_ HLM.out _) | (with_reducible refine owRow_alloc ow_reg ?_ _)))
      · (repeat (first | (with_reducible exact HN.out) | (with_reducible refine New.set ?_ _ _) | (with_reducible refine New.alloc ?_ _) | (with_reducible refine New.drew ?_)))
      · (repeat (first | (with_reducible exact HW.out) | (with_reducible refine Went.set ?_ (by first | omega | (dsimp only; omega) | (simp; done) | (simp; omega) | (have h1_ := HQ1.out; dsimp only; omega) | (have h1_ := HQ1.out; have h2_ := HQ2.out; dsimp only; omega)) _) | (with_reducible refine Went.alloc ?_ _) | (with_reducible refine Went.drewN ?_ _) | (with_reducible refine Went.drew ?_)))
    · skip
      refine bodyPost_ret (v := .agg #[.int .i64 10000, .int .i64 u, (.slice (some ⟨gg, 0, none⟩) l.length cap), .string s]) (by simp [results, go_sem, l0, q0]) rfl (anyMail_of W w _ C _ _ _ D l _ (Rests.of_ow (e := 136) ow_reg ?_) ?_ (by have := HLE.out; omega) HSS.out ?_)
      · (repeat (first | (with_reducible exact HO.out) | (with_reducible refine owRow_set ow_reg ?_ HLN.out _) | (with_reducible refine owRow_set ow_reg ?_ HLM.out _) | (with_reducible refine owRow_alloc ow_reg ?_ _)))
      · (repeat (first | (with_reducible exact HN.out) | (with_reducible refine New.set ?_ _ _) | (with_reducible refine New.alloc ?_ _) | (with_reducible refine New.drew ?_)))
      · (repeat (first | (with_reducible exact HW.out) | (with_reducible refine Went.set ?_ (by first | omega | (dsimp only; omega) | (simp; done) | (simp; omega) | (have h1_ := HQ1.out; dsimp only; omega) | (have h1_ := HQ1.out; have h2_ := HQ2.out; dsimp only; omega)) _) | (with_reducible refine Went.alloc ?_ _) | (with_reducible refine Went.drewN ?_ _) | (with_reducible refine Went.drew ?_)))
    · skip
      refine bodyPost_ret (v := .agg #[.int .i64 (-1), .int .i64 u, (.slice (some ⟨gg, 0, none⟩) l.length cap), .string s]) (by simp [results, go_sem, l0, q0]) rfl (anyMail_of W w _ C _ _ _ D l _ (Rests.of_ow (e := 136) ow_reg ?_) ?_ (by have := HLE.out; omega) HSS.out ?_)
      · (repeat (first | (with_reducible exact HO.out) | (with_reducible refine owRow_set ow_reg ?_ HLN.out _) | (with_reducible refine owRow_set ow_reg ?_ HLM.out _) | (with_reducible refine owRow_alloc ow_reg ?_ _)))
      · (repeat (first | (with_reducible exact HN.out) | (with_reducible refine New.set ?_ _ _) | (with_reducible refine New.alloc ?_ _) | (with_reducible refine New.drew ?_)))
      · (repeat (first | (with_reducible exact HW.out) | (with_reducible refine Went.set ?_ (by first | omega | (dsimp only; omega) | (simp; done) | (simp; omega) | (have h1_ := HQ1.out; dsimp only; omega) | (have h1_ := HQ1.out; have h2_ := HQ2.out; dsimp only; omega)) _) | (with_reducible refine Went.alloc ?_ _) | (with_reducible refine Went.drewN ?_ _) | (with_reducible refine Went.drew ?_)))
  by_cases h1 : k = 1
  · subst h1
    clear h0 h2 h4
    rcases h3 with h3 | h3 | h3
    all_goals go_wp2
    · skip
      refine bodyPost_ret (v := .agg #[.int .i64 g, .int .i64 0, (.slice (some ⟨gg, 0, none⟩) l.length cap), .string s]) (by simp [results, go_sem, l0, q0]) rfl (anyMail_of W w _ C _ _ _ D l _ (Rests.of_ow (e := 136) ow_reg ?_) ?_ (by have := HLE.out; omega) HSS.out ?_)
      · (repeat (first | (with_reducible exact HO.out) | (with_reducible refine owRow_set ow_reg ?_ HLN.out _) | (with_reducible refine owRow_set ow_reg ?_ HLM.out _) | (with_reducible refine owRow_alloc ow_reg ?_ _)))
      · (repeat (first | (with_reducible exact HN.out) | (with_reducible refine New.set ?_ _ _) | (with_reducible refine New.alloc ?_ _) | (with_reducible refine New.drew ?_)))
      · (repeat (first | (with_reducible exact HW.out) | (with_reducible refine Went.set ?_ (by first | omega | (dsimp only; omega) | (simp; done) | (simp; omega) | (have h1_ := HQ1.out; dsimp only; omega) | (have h1_ := HQ1.out; have h2_ := HQ2.out; dsimp only; omega)) _) | (with_reducible refine Went.alloc ?_ _) | (with_reducible refine Went.drewN ?_ _) | (with_reducible refine Went.drew ?_)))
    · skip
      refine bodyPost_ret (v := .agg #[.int .i64 g, .int .i64 9999, (.slice (some ⟨gg, 0, none⟩) l.length cap), .string s]) (by simp [results, go_sem, l0, q0]) rfl (anyMail_of W w _ C _ _ _ D l _ (Rests.of_ow (e := 136) ow_reg ?_) ?_ (by have := HLE.out; omega) HSS.out ?_)
      · (repeat (first | (with_reducible exact HO.out) | (with_reducible refine owRow_set ow_reg ?_ HLN.out _) | (with_reducible refine owRow_set ow_reg ?_ HLM.out _) | (with_reducible refine owRow_alloc ow_reg ?_ _)))
      · (repeat (first | (with_reducible exact HN.out) | (with_reducible refine New.set ?_ _ _) | (with_reducible refine New.alloc ?_ _) | (with_reducible refine New.drew ?_)))
      · (repeat (first | (with_reducible exact HW.out) | (with_reducible refine Went.set ?_ (by first | omega | (dsimp only; omega) | (simp; done) | (simp; omega) | (have h1_ := HQ1.out; dsimp only; omega) | (have h1_ := HQ1.out; have h2_ := HQ2.out; dsimp only; omega)) _) | (with_reducible refine Went.alloc ?_ _) | (with_reducible refine Went.drewN ?_ _) | (with_reducible refine Went.drew ?_)))
    · skip
      refine bodyPost_ret (v := .agg #[.int .i64 g, .int .i64 10000, (.slice (some ⟨gg, 0, none⟩) l.length cap), .string s]) (by simp [results, go_sem, l0, q0]) rfl (anyMail_of W w _ C _ _ _ D l _ (Rests.of_ow (e := 136) ow_reg ?_) ?_ (by have := HLE.out; omega) HSS.out ?_)
      · (repeat (first | (with_reducible exact HO.out) | (with_reducible refine owRow_set ow_reg ?_ HLN.out _) | (with_reducible refine owRow_set ow_reg ?_ HLM.out _) | (with_reducible refine owRow_alloc ow_reg ?_ _)))
      · (repeat (first | (with_reducible exact HN.out) | (with_reducible refine New.set ?_ _ _) | (with_reducible refine New.alloc ?_ _) | (with_reducible refine New.drew ?_)))
      · (repeat (first | (with_reducible exact HW.out) | (with_reducible refine Went.set ?_ (by first | omega | (dsimp only; omega) | (simp; done) | (simp; omega) | (have h1_ := HQ1.out; dsimp only; omega) | (have h1_ := HQ1.out; have h2_ := HQ2.out; dsimp only; omega)) _) | (with_reducible refine Went.alloc ?_ _) | (with_reducible refine Went.drewN ?_ _) | (with_reducible refine Went.drew ?_)))
  have HW2 := Aside.mk (HW.out.alloc (.cells #[.int .i64 g, .int .i64 u, .slice (some ⟨gg, 0, none⟩) l.length cap, .string s] 58))
  have L1 := Aside.mk (Loc.new w3 #[.int .i64 g, .int .i64 u, .slice (some ⟨gg, 0, none⟩) l.length cap, .string s] 58)
  have L2 := Aside.mk (L0.out.alloc (.cells #[.int .i64 g, .int .i64 u, .slice (some ⟨gg, 0, none⟩) l.length cap, .string s] 58))
  by_cases hk2 : k = 2
  · subst hk2
    clear h0 h1 h2 h3 h4
    go_wp2_with (fail)
    refine (l04Any_calls W _ C HW2.out.1).mono ?_
    rintro e w4 ⟨v4, D4, l4, rfl, hr, hn, hl, hw⟩
    obtain ⟨A4, c4, rfl, _, _⟩ := rd_len hr.now
    have HR4 := Aside.mk hr
    have HN4 := Aside.mk (hn.from (w0 := w) HW2.out.size)
    have HQ4 : Aside (w.heap.size ∉ D4 ∧ w3.heap.size ∉ D4) := ⟨fun hx => by have h1 := (hn.2 _ hx).1; have h2 := L2.out.lt; omega, fun hx => by have h1 := (hn.2 _ hx).1; have h2 := L1.out.lt; omega⟩
    have HL4 := Aside.mk hl
    replace L1 := Aside.mk (L1.out.went hw (by have := HL.out; have := HQ1.out; omega))
    replace L0 := Aside.mk (L2.out.went hw (by have := HL.out; omega))
    replace HW := Aside.mk (HW2.out.trans hw)
    clear hw hr hn hl l0 q0 f0 HW2 L2
    have l0 := L0.out.cells
    have q0 := L0.out.lt
    have f0 := L0.out.free
    have l1 := L1.out.cells
    have q1 := L1.out.lt
    have f1 := L1.out.free
    go_wp2
    refine bodyPost_ret (v := .agg #[.int .i64 g, .int .i64 u, .slice A4 l4.length c4, .string s]) (by simp [results, go_sem, l0, q0]) rfl (anyMail_of W w _ C _ _ _ D4 l4 _ ?_ ?_ HL4.out HSS.out ?_)
    · (repeat (first | (with_reducible exact HR4.out) | (with_reducible refine Rests.set ?_ HQ4.out.1 _) | (with_reducible refine Rests.set ?_ HQ4.out.2 _)))
    · (repeat (first | (with_reducible exact HN4.out) | (with_reducible refine New.set ?_ _ _) | (with_reducible refine New.alloc ?_ _) | (with_reducible refine New.drew ?_)))
    · (repeat (first | (with_reducible exact HW.out) | (with_reducible refine Went.set ?_ (by first | omega | (dsimp only; omega) | (simp; done) | (simp; omega) | (have h1_ := HQ1.out; dsimp only; omega) | (have h1_ := HQ1.out; have h2_ := HQ2.out; dsimp only; omega)) _) | (with_reducible refine Went.alloc ?_ _) | (with_reducible refine Went.drewN ?_ _) | (with_reducible refine Went.drew ?_)))
  by_cases hk3 : k = 3
  · subst hk3
    clear h0 h1 hk2 h3 h4
    rcases h2 with h2 | h2
    · go_wp2_with (fail)
      refine (l01Long_calls _ 60 97 (by decide)).mono ?_
      rintro e w4 ⟨s4, rfl, hs4, hb⟩
      have HS4 : Aside (s4.size ≤ 61) := ⟨by omega⟩
      replace HO := Aside.mk (owRow_below ow_reg (owRow_alloc ow_reg HO.out _) hb)
      replace HN := Aside.mk ((HN.out.alloc _).mono hb.size)
      replace L1 := Aside.mk (L1.out.below hb)
      replace L0 := Aside.mk (L2.out.below hb)
      replace HW := Aside.mk (HW2.out.below hb)
      clear hb l0 q0 f0 HW2 L2 hs4
      have l0 := L0.out.cells
      have q0 := L0.out.lt
      have f0 := L0.out.free
      have l1 := L1.out.cells
      have q1 := L1.out.lt
      have f1 := L1.out.free
      go_wp2
      refine bodyPost_ret (v := .agg #[.int .i64 g, .int .i64 u, (.slice (some ⟨gg, 0, none⟩) l.length cap), .string s4]) (by simp [results, go_sem, l0, q0]) rfl (anyMail_of W w _ C _ _ _ D l _ (Rests.of_ow (e := 136) ow_reg ?_) ?_ (by have := HLE.out; omega) HS4.out ?_)
      · (repeat (first | (with_reducible exact HO.out) | (with_reducible refine owRow_set ow_reg ?_ HLN.out _) | (with_reducible refine owRow_set ow_reg ?_ HLM.out _) | (with_reducible refine owRow_alloc ow_reg ?_ _)))
      · (repeat (first | (with_reducible exact HN.out) | (with_reducible refine New.set ?_ _ _) | (with_reducible refine New.alloc ?_ _) | (with_reducible refine New.drew ?_)))
      · (repeat (first | (with_reducible exact HW.out) | (with_reducible refine Went.set ?_ (by first | omega | (dsimp only; omega) | (simp; done) | (simp; omega) | (have h1_ := HQ1.out; dsimp only; omega) | (have h1_ := HQ1.out; have h2_ := HQ2.out; dsimp only; omega)) _) | (with_reducible refine Went.alloc ?_ _) | (with_reducible refine Went.drewN ?_ _) | (with_reducible refine Went.drew ?_)))
    · go_wp2_with (fail)
      refine (l01Long_calls _ 61 97 (by decide)).mono ?_
      rintro e w4 ⟨s4, rfl, hs4, hb⟩
      have HS4 : Aside (s4.size ≤ 61) := ⟨by omega⟩
      replace HO := Aside.mk (owRow_below ow_reg (owRow_alloc ow_reg HO.out _) hb)
      replace HN := Aside.mk ((HN.out.alloc _).mono hb.size)
      replace L1 := Aside.mk (L1.out.below hb)
      replace L0 := Aside.mk (L2.out.below hb)
      replace HW := Aside.mk (HW2.out.below hb)
      clear hb l0 q0 f0 HW2 L2 hs4
      have l0 := L0.out.cells
      have q0 := L0.out.lt
      have f0 := L0.out.free
      have l1 := L1.out.cells
      have q1 := L1.out.lt
      have f1 := L1.out.free
      go_wp2
      refine bodyPost_ret (v := .agg #[.int .i64 g, .int .i64 u, (.slice (some ⟨gg, 0, none⟩) l.length cap), .string s4]) (by simp [results, go_sem, l0, q0]) rfl (anyMail_of W w _ C _ _ _ D l _ (Rests.of_ow (e := 136) ow_reg ?_) ?_ (by have := HLE.out; omega) HS4.out ?_)
      · (repeat (first | (with_reducible exact HO.out) | (with_reducible refine owRow_set ow_reg ?_ HLN.out _) | (with_reducible refine owRow_set ow_reg ?_ HLM.out _) | (with_reducible refine owRow_alloc ow_reg ?_ _)))
      · (repeat (first | (with_reducible exact HN.out) | (with_reducible refine New.set ?_ _ _) | (with_reducible refine New.alloc ?_ _) | (with_reducible refine New.drew ?_)))
      · (repeat (first | (with_reducible exact HW.out) | (with_reducible refine Went.set ?_ (by first | omega | (dsimp only; omega) | (simp; done) | (simp; omega) | (have h1_ := HQ1.out; dsimp only; omega) | (have h1_ := HQ1.out; have h2_ := HQ2.out; dsimp only; omega)) _) | (with_reducible refine Went.alloc ?_ _) | (with_reducible refine Went.drewN ?_ _) | (with_reducible refine Went.drew ?_)))
  · clear h2 h3 h4 HW2 L1 L2
    go_wp2
    refine bodyPost_ret (v := .agg #[.int .i64 g, .int .i64 u, (.slice (some ⟨gg, 0, none⟩) l.length cap), .string s]) (by simp [results, go_sem, l0, q0]) rfl (anyMail_of W w _ C _ _ _ D l _ (Rests.of_ow (e := 136) ow_reg ?_) ?_ (by have := HLE.out; omega) HSS.out ?_)
    · (repeat (first | (with_reducible exact HO.out) | (with_reducible refine owRow_set ow_reg ?_ HLN.out _) | (with_reducible refine owRow_set ow_reg ?_ HLM.out _) | (with_reducible refine owRow_alloc ow_reg ?_ _)))
    · (repeat (first | (with_reducible exact HN.out) | (with_reducible refine New.set ?_ _ _) | (with_reducible refine New.alloc ?_ _) | (with_reducible refine New.drew ?_)))
    · (repeat (first | (with_reducible exact HW.out) | (with_reducible refine Went.set ?_ (by first | omega | (dsimp only; omega) | (simp; done) | (simp; omega) | (have h1_ := HQ1.out; dsimp only; omega) | (have h1_ := HQ1.out; have h2_ := HQ2.out; dsimp only; omega)) _) | (with_reducible refine Went.alloc ?_ _) | (with_reducible refine Went.drewN ?_ _) | (with_reducible refine Went.drew ?_)))
/-! A text with something else in it: the walk. -/
set_option maxHeartbeats 2000000 in
set_option maxRecDepth 100000 in
theorem l02Spoilt_calls (W w : World) (C : Nat) (s : ByteArray) (hs : s.size ≤ 1000) (hc : HasCur W w C) :
    Calls Try.prog 145 #[.pointer (some ⟨C, 0, none⟩), .string s] w fun e w' => ∃ t : ByteArray, e = .returned (.string t) ∧ t.size ≤ s.size + 1 ∧ Went W w w' C := by
  have HW := Aside.mk (Went.refl hc)
  have HS := Aside.mk hs
  clear hc
  go_enter Try.func145, Try.ntmps145
  go_wp2_with (fail)
  refine (l01Below_calls W _ C _ HW.out.1).mono ?_
  rintro e w1 ⟨k, rfl, hk0, _, hk1, hw⟩
  replace HW := Aside.mk (HW.out.trans hw)
  clear hw hk0 hk1
  by_cases h0 : k = 0
  · subst h0
    go_wp2_with (fail)
    refine (l01Text_calls W _ C 1 (by decide) (by decide) HW.out.1).mono ?_
    rintro e w2 ⟨t, rfl, ht, hw⟩
    replace HW := Aside.mk (HW.out.trans hw)
    clear hw
    have hsz : ¬ (9223372036854775807 < s.size + t.size) := by omega
    go_wp2
    go_ret
    exact ⟨_, rfl, by rw [ByteArray.size_append]; omega, HW.out⟩
  by_cases h1 : k = 1
  · subst h1
    clear h0
    have e1 : IntKind.i64.wrap ((s.size : Int) + 1) = (s.size : Int) + 1 := by rw [IntKind.wrap_i64]; omega
    go_wp2_with (fail)
    refine (l01Below_calls W _ C _ HW.out.1).mono ?_
    rintro e w2 ⟨x, rfl, hx0, _, hx1, hw⟩
    obtain ⟨n, rfl⟩ := Int.eq_ofNat_of_zero_le hx0
    replace hx1 := hx1 (by omega)
    replace HW := Aside.mk (HW.out.trans hw)
    clear hw hx0
    have p1 : (n : Int) ≤ (s.size : Int) := by omega
    go_wp2
    go_ret
    exact ⟨_, rfl, by simp; omega, HW.out⟩
  by_cases h2 : k = 2 ∨ k = 3
  · clear h0 h1
    rcases h2 with h2 | h2
    · subst h2
      by_cases hz : (0 : Int) < (s.size : Int)
      · go_wp2_with (fail)
        refine (l01Below_calls W _ C _ HW.out.1).mono ?_
        rintro e w2 ⟨x, rfl, hx0, _, hx1, hw⟩
        obtain ⟨n, rfl⟩ := Int.eq_ofNat_of_zero_le hx0
        replace hx1 := hx1 hz
        replace HW := Aside.mk (HW.out.trans hw)
        clear hw hx0
        have p0 : (0 : Int) ≤ (n : Int) := by omega
        have p1 : (n : Int) ≤ (s.size : Int) := by omega
        have p2 : (n : Int) + 1 ≤ (s.size : Int) := by omega
        have p3 : (0 : Int) ≤ (n : Int) + 1 := by omega
        have e1 : IntKind.i64.wrap ((n : Int) + 1) = (n : Int) + 1 := by rw [IntKind.wrap_i64]; omega
        go_wp2
        refine zBegin (S := (fun w' => Aside (Went W w w' C))) (z := 12) (by kernel_rfl) (by exact ⟨HW.out.drew⟩) (fun hHeld => ?_)
        refine zT 0 33 hHeld ?_
        refine zT 1 34 hHeld ?_
        refine zT 2 35 hHeld ?_
        refine zT 3 36 hHeld ?_
        refine zT 6 39 hHeld ?_
        refine zT 7 40 hHeld ?_
        refine zT 8 41 hHeld ?_
        refine zT 9 42 hHeld ?_
        refine zReady (rs := [4]) (by kernel_rfl) (by simp) ?_
        refine zOne (by decide) rfl (fun K hK => ?_) zNil
        go_simp
        refine (l01Text_calls W _ C 1 (by decide) (by decide) hHeld.out.1).mono ?_; rintro e w3 ⟨t, rfl, ht, hw⟩
        refine hK.out _ _ (by exact ⟨hHeld.out.trans hw⟩) (fun hHeld => ?_)
        clear hK K
        (try simp only [Act.put, List.setIfInBounds_toArray, List.set_cons_zero, List.set_cons_succ])
        have hsz : ¬ (9223372036854775807 < min n s.size + t.size) := (by omega); have hsz2 : ¬ (9223372036854775807 < min n s.size + t.size + (s.size - (n + 1))) := (by omega); clear hw
        refine zT 5 38 hHeld ?_
        refine zT 10 43 hHeld ?_
        refine zT 11 4 hHeld ?_
        refine zDone (by kernel_rfl) ?_ _
        go_wp2
        go_ret
        exact ⟨_, rfl, by rw [ByteArray.size_append, ByteArray.size_append, ByteArray.size_extract, ByteArray.size_extract]; omega, hHeld.out⟩
      · go_wp2
        go_ret
        exact ⟨_, rfl, by omega, HW.out⟩
    · subst h2
      by_cases hz : (0 : Int) < (s.size : Int)
      · go_wp2_with (fail)
        refine (l01Below_calls W _ C _ HW.out.1).mono ?_
        rintro e w2 ⟨x, rfl, hx0, _, hx1, hw⟩
        obtain ⟨n, rfl⟩ := Int.eq_ofNat_of_zero_le hx0
        replace hx1 := hx1 hz
        replace HW := Aside.mk (HW.out.trans hw)
        clear hw hx0
        have p0 : (0 : Int) ≤ (n : Int) := by omega
        have p1 : (n : Int) ≤ (s.size : Int) := by omega
        have p2 : (n : Int) + 1 ≤ (s.size : Int) := by omega
        have p3 : (0 : Int) ≤ (n : Int) + 1 := by omega
        have e1 : IntKind.i64.wrap ((n : Int) + 1) = (n : Int) + 1 := by rw [IntKind.wrap_i64]; omega
        go_wp2
        refine zBegin (S := (fun w' => Aside (Went W w w' C))) (z := 12) (by kernel_rfl) (by exact ⟨HW.out.drew⟩) (fun hHeld => ?_)
        refine zT 0 33 hHeld ?_
        refine zT 1 34 hHeld ?_
        refine zT 2 35 hHeld ?_
        refine zT 3 36 hHeld ?_
        refine zT 6 39 hHeld ?_
        refine zT 7 40 hHeld ?_
        refine zT 8 41 hHeld ?_
        refine zT 9 42 hHeld ?_
        refine zReady (rs := [4]) (by kernel_rfl) (by simp) ?_
        refine zOne (by decide) rfl (fun K hK => ?_) zNil
        go_simp
        refine (l01Text_calls W _ C 1 (by decide) (by decide) hHeld.out.1).mono ?_; rintro e w3 ⟨t, rfl, ht, hw⟩
        refine hK.out _ _ (by exact ⟨hHeld.out.trans hw⟩) (fun hHeld => ?_)
        clear hK K
        (try simp only [Act.put, List.setIfInBounds_toArray, List.set_cons_zero, List.set_cons_succ])
        have hsz : ¬ (9223372036854775807 < min n s.size + t.size) := (by omega); have hsz2 : ¬ (9223372036854775807 < min n s.size + t.size + (s.size - (n + 1))) := (by omega); clear hw
        refine zT 5 38 hHeld ?_
        refine zT 10 43 hHeld ?_
        refine zT 11 4 hHeld ?_
        refine zDone (by kernel_rfl) ?_ _
        go_wp2
        go_ret
        exact ⟨_, rfl, by rw [ByteArray.size_append, ByteArray.size_append, ByteArray.size_extract, ByteArray.size_extract]; omega, hHeld.out⟩
      · go_wp2
        go_ret
        exact ⟨_, rfl, by omega, HW.out⟩
  · have h3 : k ≠ 2 := fun h => h2 (Or.inl h)
    have h4 : k ≠ 3 := fun h => h2 (Or.inr h)
    clear h2
    go_wp2
    go_ret
    exact ⟨_, rfl, by omega, HW.out⟩
/-! A pair of drawn mails; what the statements draw of mails: the walks. Printed by this session's gen_pair.py. -/
/-- A list of registers that hangs on blocks made since w. -/
def Far (w w' : World) (v : Value) (l : List Reg) : Prop := ∃ D, Rests D w' (fun w => rdRegs w v l) ∧ ∀ b ∈ D, w.heap.size ≤ b
theorem Far.now {w w' : World} {v : Value} {l : List Reg} (h : Far w w' v l) : rdRegs w' v l := by obtain ⟨D, h1, _⟩ := h; exact h1.now
def PairMail (w w' : World) (e : Ending) : Prop := ∃ (a b : Mail) (va vb : Value), e = .returned (.tuple #[.agg #[.int .i64 a.g, .int .i64 a.u, va, .string a.tx], .agg #[.int .i64 b.g, .int .i64 b.u, vb, .string b.tx]]) ∧ Far w w' va a.fl ∧ Far w w' vb b.fl ∧
  (a.fl.length ≤ 4 ∧ b.fl.length ≤ 4) ∧ (a.tx.size ≤ 61 ∧ b.tx.size ≤ 61) ∧ Below w.heap.size w w'
theorem pairMail_of (w w' : World) (ag au bg bu : Int) (va vb : Value) (al bl : List Reg) (at_ bt : ByteArray) (Da Db : List Nat) (h1 : Rests Da w' (fun w => rdRegs w va al)) (h2 : Rests Db w' (fun w => rdRegs w vb bl)) (g1 : ∀ b ∈ Da, w.heap.size ≤ b) (g2 : ∀ b ∈ Db, w.heap.size ≤ b) (h3 : al.length ≤ 4 ∧ bl.length ≤ 4) (h4 : at_.size ≤ 61 ∧ bt.size ≤ 61) (hb : Below w.heap.size w w') :
    PairMail w w' (.returned (.tuple #[.agg #[.int .i64 ag, .int .i64 au, va, .string at_], .agg #[.int .i64 bg, .int .i64 bu, vb, .string bt]])) := ⟨⟨ag, au, al, at_⟩, ⟨bg, bu, bl, bt⟩, va, vb, rfl, ⟨Da, h1, g1⟩, ⟨Db, h2, g2⟩, h3, h4, hb⟩
theorem Rests.alloc {D : List Nat} {w w0 : World} {K : World → Prop} (h : Rests D w K) (hn : New w0 w D) (o : Obj) : Rests D (w.alloc o) K := h.below hn ((Below.refl _ w).alloc (Nat.le_refl _) o)
theorem Rests.alloc2 {D : List Nat} {w w4 w0 : World} {K : World → Prop} (h : Rests D w K) (hn : New w0 w4 D) (hs : w4.heap.size = w.heap.size) (o : Obj) : Rests D (w.alloc o) K :=
  h.move fun b hb => Below.heap_alloc w o b (by have := (hn.2 b hb).2; omega)
theorem Rests.drew {D : List Nat} {w : World} {K : World → Prop} (h : Rests D w K) : Rests D w.drew K := h.move fun _ _ => rfl
theorem Loc.newAt {w : World} {b : Nat} {cs : Array Value} {t : TypeId} (hb : b = w.heap.size) : Loc (w.alloc (.cells cs t)) b cs t := hb ▸ Loc.new w cs t
set_option maxHeartbeats 2000000 in
set_option maxRecDepth 100000 in
theorem l05Pair_calls (w : World) (A : Option Addr) (c : Nat) (code : List Int) (h : rdBytes w (.slice A code.length c) code) :
    Calls Try.prog 146 #[.slice A code.length c] w (fun e w' => PairMail w w' e) := by
  have HR := Aside.mk h
  clear h
  go_enter Try.func146, Try.ntmps146
  go_wp2_with (fail)
  refine (l01New_calls _ A c code (rdBytes_mov (by (repeat (first | (with_reducible exact HB.out) | (with_reducible exact Below.refl _ _) | (with_reducible refine below_set ?_ (by first | omega | (dsimp only; omega) | (simp; done) | (simp; omega)) _) | (with_reducible refine below_alloc ?_ _) | (with_reducible refine below_drewN ?_ _) | (with_reducible refine below_drew ?_)))) HR.out)).mono ?_
  rintro e w1 ⟨C, rfl, hc, hb⟩
  have HB : Aside (Below w.heap.size w w1) := ⟨below_step (by (repeat (first | (with_reducible exact HB.out) | (with_reducible exact Below.refl _ _) | (with_reducible refine below_set ?_ (by first | omega | (dsimp only; omega) | (simp; done) | (simp; omega)) _) | (with_reducible refine below_alloc ?_ _) | (with_reducible refine below_drewN ?_ _) | (with_reducible refine below_drew ?_)))) hb⟩
  have HL : Aside (w.heap.size + 2 ≤ C) := ⟨by have := hc.ge; simp at this; omega⟩
  have HW := Aside.mk (Went.refl hc)
  have L2 := Aside.mk (((Loc.new w #[.int .i64 0, .int .i64 0, .slice none 0 0, .string ⟨#[]⟩] 58).alloc (.cells #[.int .i64 0, .int .i64 0, .slice none 0 0, .string ⟨#[]⟩] 58)).below hb)
  have L3 := Aside.mk ((Loc.new1 w (.cells #[.int .i64 0, .int .i64 0, .slice none 0 0, .string ⟨#[]⟩] 58) #[.int .i64 0, .int .i64 0, .slice none 0 0, .string ⟨#[]⟩] 58).below hb)
  clear hb hc
  go_wp2_with (fail)
  refine (l01Below_calls _ _ C _ HW.out.1).mono ?_
  rintro e w2 ⟨k, rfl, hk0, _, hk1, hw⟩
  replace HB := Aside.mk (hw.low HB.out (by have := HL.out; omega))
  replace L2 := Aside.mk (L2.out.went hw (by have := HL.out; (try have := HQ1.out); (try have := HQ2.out); (try have := HQ3.out); omega)); replace L3 := Aside.mk (L3.out.went hw (by have := HL.out; (try have := HQ1.out); (try have := HQ2.out); (try have := HQ3.out); omega)); replace HW := Aside.mk (HW.out.trans hw); clear hw; (try clear l2); (try clear q2); (try clear f2); (try clear l3); (try clear q3); (try clear f3); have l2 := L2.out.cells; have q2 := L2.out.lt; have f2 := L2.out.free; have l3 := L3.out.cells; have q3 := L3.out.lt; have f3 := L3.out.free
  clear l2 q2 f2 l3 q3 f3 hk0 hk1
  go_wp2_with (fail)
  refine (l05Any_calls _ _ C HW.out.1).mono ?_
  rintro e w3 ⟨a, va, Da, rfl, hra, hna, hla, hta, hw⟩
  obtain ⟨Aa, ca, rfl, _, _⟩ := rd_len hra.now
  have HCA : Aside (C ∉ Da) := ⟨hna.offC HW.out.1.lt⟩
  have HRA := Aside.mk (hra.alloc hna (.cells #[.int .i64 a.g, .int .i64 a.u, .slice Aa a.fl.length ca, .string a.tx] 58))
  have HNA := Aside.mk (hna.alloc (.cells #[.int .i64 a.g, .int .i64 a.u, .slice Aa a.fl.length ca, .string a.tx] 58))
  have HDA : Aside (w.heap.size ∉ Da ∧ w.heap.size + 1 ∉ Da) := ⟨fun hx => by have h1 := (hna.2 _ hx).1; have h2 := L2.out.lt; omega, fun hx => by have h1 := (hna.2 _ hx).1; have h2 := L3.out.lt; omega⟩
  have HGA : Aside (∀ b ∈ Da, w.heap.size ≤ b) := ⟨fun x hx => by have h1 := (hna.2 _ hx).1; have h2 := HB.out.size; omega⟩
  have HLA := Aside.mk hla
  have HTA := Aside.mk hta
  replace HB := Aside.mk (below_alloc (hw.low HB.out (by have := HL.out; omega)) (.cells #[.int .i64 a.g, .int .i64 a.u, .slice Aa a.fl.length ca, .string a.tx] 58))
  replace L2 := Aside.mk ((L2.out.went hw (by have := HL.out; omega)).alloc (.cells #[.int .i64 a.g, .int .i64 a.u, .slice Aa a.fl.length ca, .string a.tx] 58))
  replace L3 := Aside.mk ((L3.out.went hw (by have := HL.out; omega)).alloc (.cells #[.int .i64 a.g, .int .i64 a.u, .slice Aa a.fl.length ca, .string a.tx] 58))
  have L6 := Aside.mk (Loc.new w3 #[.int .i64 a.g, .int .i64 a.u, .slice Aa a.fl.length ca, .string a.tx] 58)
  have HQ6 : Aside (C < w3.heap.size) := ⟨(HW.out.trans hw).1.lt⟩
  replace HW := Aside.mk ((HW.out.trans hw).alloc (.cells #[.int .i64 a.g, .int .i64 a.u, .slice Aa a.fl.length ca, .string a.tx] 58))
  clear hra hna hla hta hw
  go_wp2_with (fail)
  refine (l05Any_calls _ _ C HW.out.1).mono ?_
  rintro e w4 ⟨b, vb, Db, rfl, hrb, hnb, hlb, htb, hw⟩
  obtain ⟨Ab, cb, rfl, _, _⟩ := rd_len hrb.now
  have HDB : Aside (w.heap.size ∉ Db ∧ w.heap.size + 1 ∉ Db) := ⟨fun hx => by have h1 := (hnb.2 _ hx).1; have h2 := L2.out.lt; omega, fun hx => by have h1 := (hnb.2 _ hx).1; have h2 := L3.out.lt; omega⟩
  replace HRA := Aside.mk (HRA.out.went HNA.out hw HCA.out)
  replace HNA := Aside.mk (HNA.out.mono hw.size)
  have HRB := Aside.mk hrb
  have HNB := Aside.mk hnb
  have HGB : Aside (∀ b ∈ Db, w.heap.size ≤ b) := ⟨fun x hx => by have h1 := (hnb.2 _ hx).1; have h2 := L2.out.lt; have h3 := hw.size; simp at h1; have h4 := HQ6.out; have h5 := HL.out; omega⟩
  have HLB := Aside.mk hlb
  have HTB := Aside.mk htb
  replace HB := Aside.mk (hw.low HB.out (by have := HL.out; omega))
  replace L2 := Aside.mk (L2.out.went hw (by have := HL.out; omega))
  replace L3 := Aside.mk (L3.out.went hw (by have := HL.out; omega))
  replace L6 := Aside.mk (L6.out.went hw (by have := HQ6.out; omega))
  have HQ1 : Aside (w.heap.size + 2 < w3.heap.size ∧ w3.heap.size < w4.heap.size) := ⟨by have := HL.out; have := HQ6.out; omega, L6.out.lt⟩
  have hne1 : w.heap.size ≠ w3.heap.size := by have := HQ1.out; omega
  have hne2 : w.heap.size + 1 ≠ w3.heap.size := by have := HQ1.out; omega
  have hne3 : w.heap.size ≠ w4.heap.size := by have := HQ1.out; omega
  have hne4 : w.heap.size + 1 ≠ w4.heap.size := by have := HQ1.out; omega
  have hne5 : w3.heap.size ≠ w4.heap.size := by have := HQ1.out; omega
  clear hrb hnb hlb htb hw
  have l2 := L2.out.cells
  have q2 := L2.out.lt
  have f2 := L2.out.free
  have l3 := L3.out.cells
  have q3 := L3.out.lt
  have f3 := L3.out.free
  have l6 := L6.out.cells
  have q6 := L6.out.lt
  have f6 := L6.out.free
  by_cases h0 : 0 < k
  · by_cases h1 : 1 < k
    · go_wp2
      refine zBegin (S := (fun w' => Loc w' w3.heap.size #[.int .i64 a.g, .int .i64 a.u, .slice Aa a.fl.length ca, .string a.tx] 58)) (z := 4) (by kernel_rfl) (by exact (L6.out.alloc _).drew') (fun hHeld => ?_)
      refine zT 0 23 hHeld ?_
      refine zT 1 24 hHeld ?_
      refine zReady (rs := [2]) (by kernel_rfl) (by simp) ?_
      refine zOne (by decide) rfl (fun K hK => ?_) zNil
      go_simp
      refine (l05Copy_calls _ _ a (Rests.now (K := fun w => rdRegs w _ a.fl) (HRA.out.alloc2 HNA.out rfl (.cells #[.int .i64 a.g, .int .i64 b.u, .slice Ab b.fl.length cb, .string b.tx] 58)).drew) (by have := HLA.out; omega)).mono ?_; rintro e w5 ⟨fx, Dx, rfl, hox, hnx, hb⟩; obtain ⟨Ax, cx, rfl⟩ := cell_own ow_reg hox
      refine hK.out _ _ (by exact hHeld.below hb) (fun hHeld => ?_)
      clear hK K
      (try simp only [Act.put, List.setIfInBounds_toArray, List.set_cons_zero, List.set_cons_succ])
      clear l2 q2 f2 l3 q3 f3 l6 q6 f6; replace L6 := Aside.mk ((L6.out.alloc (.cells #[.int .i64 a.g, .int .i64 b.u, .slice Ab b.fl.length cb, .string b.tx] 58)).drew'.below hb); replace L2 := Aside.mk ((L2.out.alloc (.cells #[.int .i64 a.g, .int .i64 b.u, .slice Ab b.fl.length cb, .string b.tx] 58)).drew'.below hb); replace L3 := Aside.mk ((L3.out.alloc (.cells #[.int .i64 a.g, .int .i64 b.u, .slice Ab b.fl.length cb, .string b.tx] 58)).drew'.below hb); have HRX := Aside.mk (Rests.of_ow ow_reg hox); have HDX : Aside (w.heap.size ∉ Dx ∧ w.heap.size + 1 ∉ Dx) := ⟨fun hx => (by have h1 := (hnx.2 _ hx).1; have h2 := HQ1.out; simp at h1; omega), fun hx => (by have h1 := (hnx.2 _ hx).1; have h2 := HQ1.out; simp at h1; omega)⟩; have HNX := Aside.mk hnx; have HGX : Aside (∀ b ∈ Dx, w.heap.size ≤ b) := ⟨fun x hx => (by have h1 := (hnx.2 _ hx).1; have h2 := HQ1.out; simp at h1; omega)⟩; have HR5 := Aside.mk ((HRA.out.alloc2 HNA.out rfl (.cells #[.int .i64 a.g, .int .i64 b.u, .slice Ab b.fl.length cb, .string b.tx] 58)).drew.below (HNA.out.alloc (.cells #[.int .i64 a.g, .int .i64 b.u, .slice Ab b.fl.length cb, .string b.tx] 58)).drew hb); have HB5 := Aside.mk (below_step (below_drew (below_alloc HB.out (.cells #[.int .i64 a.g, .int .i64 b.u, .slice Ab b.fl.length cb, .string b.tx] 58))) hb); clear hox hnx hb HB HRA HRB; have l2 := L2.out.cells; have q2 := L2.out.lt; have f2 := L2.out.free; have l3 := L3.out.cells; have q3 := L3.out.lt; have f3 := L3.out.free; have HB := HB5
      refine zReady (rs := [3]) (by kernel_rfl) (by simp) ?_
      refine zOne (by decide) rfl (fun K hK => ?_) zNil
      go_simp
      refine hK.out _ _ (by (repeat (first | (with_reducible exact hHeld.1) | (with_reducible exact hHeld.2) | (with_reducible exact L6.out) | (with_reducible refine Loc.set ?_ (by show _ ≠ w.heap.size; have := HQ1.out; omega) _) | (with_reducible refine Loc.drew' ?_) | exact Loc.newAt (by simp) | (with_reducible refine Loc.alloc ?_ _)))) (fun hHeld => ?_)
      clear hK K
      (try simp only [Act.put, List.setIfInBounds_toArray, List.set_cons_zero, List.set_cons_succ])
      refine zReady (rs := [4]) (by kernel_rfl) (by simp) ?_
      refine zLast rfl (fun K hK => ?_) zNil
      go_simp
      refine hK.out _ _ ?_
      clear hK K
      (try simp only [Act.put, List.setIfInBounds_toArray, List.set_cons_zero, List.set_cons_succ])
      refine zDone (by kernel_rfl) ?_ _
      clear hHeld
      go_wp2
      refine bodyPost_ret (v := .tuple #[.agg #[.int .i64 a.g, .int .i64 a.u, .slice Aa a.fl.length ca, .string a.tx], .agg #[.int .i64 a.g, .int .i64 a.u, .slice Ax a.fl.length cx, .string a.tx]]) (by simp [results, go_sem, l2, q2, l3, q3]) rfl (pairMail_of w _ _ _ _ _ _ _ _ _ _ _ Da Dx ?_ ?_ HGA.out HGX.out ⟨HLA.out, HLA.out⟩ ⟨HTA.out, HTA.out⟩ ?_)
      · (repeat (first | (with_reducible exact HR5.out) | (with_reducible refine Rests.drew ?_) | (with_reducible refine Rests.set ?_ HDA.out.1 _) | (with_reducible refine Rests.set ?_ HDA.out.2 _) | (with_reducible refine Rests.alloc2 ?_ HNA.out (by simp) _)))
      · (repeat (first | (with_reducible exact HRX.out) | (with_reducible refine Rests.drew ?_) | (with_reducible refine Rests.set ?_ HDX.out.1 _) | (with_reducible refine Rests.set ?_ HDX.out.2 _) | (with_reducible refine Rests.alloc2 ?_ HNX.out (by simp) _)))
      · (repeat (first | (with_reducible exact HB.out) | (with_reducible exact Below.refl _ _) | (with_reducible refine below_set ?_ (by first | omega | (dsimp only; omega) | (simp; done) | (simp; omega)) _) | (with_reducible refine below_alloc ?_ _) | (with_reducible refine below_drewN ?_ _) | (with_reducible refine below_drew ?_)))
    · skip
      go_wp2
      refine zBegin (S := (fun w' => Loc w' w3.heap.size #[.int .i64 a.g, .int .i64 a.u, .slice Aa a.fl.length ca, .string a.tx] 58 ∧ Loc w' w4.heap.size #[.int .i64 a.g, .int .i64 b.u, .slice Ab b.fl.length cb, .string b.tx] 58)) (z := 3) (by kernel_rfl) (by exact ⟨(L6.out.alloc _).drew', (Loc.new w4 _ _).drew'⟩) (fun hHeld => ?_)
      refine zT 0 26 hHeld ?_
      refine zT 1 27 hHeld ?_
      refine zReady (rs := [2]) (by kernel_rfl) (by simp) ?_
      refine zOne (by decide) rfl (fun K hK => ?_) zNil
      go_simp
      refine hK.out _ _ (by (refine ⟨?_, ?_⟩ <;> (repeat (first | (with_reducible exact hHeld.1) | (with_reducible exact hHeld.2) | (with_reducible exact L6.out) | (with_reducible refine Loc.set ?_ (by show _ ≠ w.heap.size; have := HQ1.out; omega) _) | (with_reducible refine Loc.drew' ?_) | exact Loc.newAt (by simp) | (with_reducible refine Loc.alloc ?_ _))))) (fun hHeld => ?_)
      clear hK K
      (try simp only [Act.put, List.setIfInBounds_toArray, List.set_cons_zero, List.set_cons_succ])
      refine zReady (rs := [3]) (by kernel_rfl) (by simp) ?_
      refine zLast rfl (fun K hK => ?_) zNil
      go_simp
      refine hK.out _ _ ?_
      clear hK K
      (try simp only [Act.put, List.setIfInBounds_toArray, List.set_cons_zero, List.set_cons_succ])
      refine zDone (by kernel_rfl) ?_ _
      clear hHeld
      go_wp2
      refine bodyPost_ret (v := .tuple #[.agg #[.int .i64 a.g, .int .i64 a.u, .slice Aa a.fl.length ca, .string a.tx], .agg #[.int .i64 a.g, .int .i64 b.u, .slice Ab b.fl.length cb, .string b.tx]]) (by simp [results, go_sem, l2, q2, l3, q3, l6, q6]) rfl (pairMail_of w _ _ _ _ _ _ _ _ _ _ _ Da Db ?_ ?_ HGA.out HGB.out ⟨HLA.out, HLB.out⟩ ⟨HTA.out, HTB.out⟩ ?_)
      · (repeat (first | (with_reducible exact HRA.out) | (with_reducible refine Rests.drew ?_) | (with_reducible refine Rests.set ?_ HDA.out.1 _) | (with_reducible refine Rests.set ?_ HDA.out.2 _) | (with_reducible refine Rests.alloc2 ?_ HNA.out (by simp) _)))
      · (repeat (first | (with_reducible exact HRB.out) | (with_reducible refine Rests.drew ?_) | (with_reducible refine Rests.set ?_ HDB.out.1 _) | (with_reducible refine Rests.set ?_ HDB.out.2 _) | (with_reducible refine Rests.alloc2 ?_ HNB.out (by simp) _)))
      · (repeat (first | (with_reducible exact HB.out) | (with_reducible exact Below.refl _ _) | (with_reducible refine below_set ?_ (by first | omega | (dsimp only; omega) | (simp; done) | (simp; omega)) _) | (with_reducible refine below_alloc ?_ _) | (with_reducible refine below_drewN ?_ _) | (with_reducible refine below_drew ?_)))
  · have h1 : ¬ (1 < k) := by omega
    go_wp2
    refine zBegin (S := (fun w' => Loc w' w3.heap.size #[.int .i64 a.g, .int .i64 a.u, .slice Aa a.fl.length ca, .string a.tx] 58 ∧ Loc w' w4.heap.size #[.int .i64 b.g, .int .i64 b.u, .slice Ab b.fl.length cb, .string b.tx] 58)) (z := 3) (by kernel_rfl) (by exact ⟨(L6.out.alloc _).drew', (Loc.new w4 _ _).drew'⟩) (fun hHeld => ?_)
    refine zT 0 26 hHeld ?_
    refine zT 1 27 hHeld ?_
    refine zReady (rs := [2]) (by kernel_rfl) (by simp) ?_
    refine zOne (by decide) rfl (fun K hK => ?_) zNil
    go_simp
    refine hK.out _ _ (by (refine ⟨?_, ?_⟩ <;> (repeat (first | (with_reducible exact hHeld.1) | (with_reducible exact hHeld.2) | (with_reducible exact L6.out) | (with_reducible refine Loc.set ?_ (by show _ ≠ w.heap.size; have := HQ1.out; omega) _) | (with_reducible refine Loc.drew' ?_) | exact Loc.newAt (by simp) | (with_reducible refine Loc.alloc ?_ _))))) (fun hHeld => ?_)
    clear hK K
    (try simp only [Act.put, List.setIfInBounds_toArray, List.set_cons_zero, List.set_cons_succ])
    refine zReady (rs := [3]) (by kernel_rfl) (by simp) ?_
    refine zLast rfl (fun K hK => ?_) zNil
    go_simp
    refine hK.out _ _ ?_
    clear hK K
    (try simp only [Act.put, List.setIfInBounds_toArray, List.set_cons_zero, List.set_cons_succ])
    refine zDone (by kernel_rfl) ?_ _
    clear hHeld
    go_wp2
    refine bodyPost_ret (v := .tuple #[.agg #[.int .i64 a.g, .int .i64 a.u, .slice Aa a.fl.length ca, .string a.tx], .agg #[.int .i64 b.g, .int .i64 b.u, .slice Ab b.fl.length cb, .string b.tx]]) (by simp [results, go_sem, l2, q2, l3, q3, l6, q6]) rfl (pairMail_of w _ _ _ _ _ _ _ _ _ _ _ Da Db ?_ ?_ HGA.out HGB.out ⟨HLA.out, HLB.out⟩ ⟨HTA.out, HTB.out⟩ ?_)
    · (repeat (first | (with_reducible exact HRA.out) | (with_reducible refine Rests.drew ?_) | (with_reducible refine Rests.set ?_ HDA.out.1 _) | (with_reducible refine Rests.set ?_ HDA.out.2 _) | (with_reducible refine Rests.alloc2 ?_ HNA.out (by simp) _)))
    · (repeat (first | (with_reducible exact HRB.out) | (with_reducible refine Rests.drew ?_) | (with_reducible refine Rests.set ?_ HDB.out.1 _) | (with_reducible refine Rests.set ?_ HDB.out.2 _) | (with_reducible refine Rests.alloc2 ?_ HNB.out (by simp) _)))
    · (repeat (first | (with_reducible exact HB.out) | (with_reducible exact Below.refl _ _) | (with_reducible refine below_set ?_ (by first | omega | (dsimp only; omega) | (simp; done) | (simp; omega)) _) | (with_reducible refine below_alloc ?_ _) | (with_reducible refine below_drewN ?_ _) | (with_reducible refine below_drew ?_)))
/-! What the statements draw of mails: the walks. -/
set_option maxHeartbeats 2000000 in
set_option maxRecDepth 100000 in
theorem drawMailText_calls (w : World) (A : Option Addr) (c : Nat) (code : List Int) (h : rdBytes w (.slice A code.length c) code) :
    Calls Try.prog 59 #[.slice A code.length c] w fun e w' => ∃ (m : Mail) (v : Value), e = .returned (.agg #[.int .i64 m.g, .int .i64 m.u, v, .string m.tx]) ∧ rdRegs w' v m.fl ∧ m.fl.length ≤ 4 ∧ m.tx.size ≤ 61 ∧ Below w.heap.size w w' := by
  have HR := Aside.mk h
  clear h
  go_enter Try.func59, Try.ntmps59
  go_wp2_with (fail)
  refine (l01New_calls _ A c code (rdBytes_mov (by (repeat (first | (with_reducible exact HB.out) | (with_reducible exact Below.refl _ _) | (with_reducible refine below_set ?_ (by first | omega | (dsimp only; omega) | (simp; done) | (simp; omega)) _) | (with_reducible refine below_alloc ?_ _) | (with_reducible refine below_drewN ?_ _) | (with_reducible refine below_drew ?_)))) HR.out)).mono ?_
  rintro e w1 ⟨C, rfl, hc, hb⟩
  have HB : Aside (Below w.heap.size w w1) := ⟨below_step (by (repeat (first | (with_reducible exact HB.out) | (with_reducible exact Below.refl _ _) | (with_reducible refine below_set ?_ (by first | omega | (dsimp only; omega) | (simp; done) | (simp; omega)) _) | (with_reducible refine below_alloc ?_ _) | (with_reducible refine below_drewN ?_ _) | (with_reducible refine below_drew ?_)))) hb⟩
  have HL : Aside (w.heap.size + 1 ≤ C) := ⟨by have := hc.ge; simp at this; omega⟩
  have HW := Aside.mk (Went.refl hc)
  have L2 := Aside.mk ((Loc.new w #[.int .i64 0, .int .i64 0, .slice none 0 0, .string ⟨#[]⟩] 58).below hb)
  clear hb hc
  go_wp2_with (fail)
  refine (l05Any_calls _ _ C HW.out.1).mono ?_
  rintro e w2 ⟨m, v, D, rfl, hr, hn, hl, ht, hw⟩
  obtain ⟨A1, c1, rfl, _, _⟩ := rd_len hr.now
  have HDA : Aside (w.heap.size ∉ D) := ⟨fun hx => by have h1 := (hn.2 _ hx).1; have h2 := L2.out.lt; omega⟩
  have HRA := Aside.mk hr
  have HLA := Aside.mk hl
  have HTA := Aside.mk ht
  replace HB := Aside.mk (hw.low HB.out (by have := HL.out; omega))
  replace L2 := Aside.mk (L2.out.went hw (by have := HL.out; omega))
  clear hr hn hl ht hw
  have l2 := L2.out.cells
  have q2 := L2.out.lt
  have f2 := L2.out.free
  go_wp2
  refine bodyPost_ret (v := .agg #[.int .i64 m.g, .int .i64 m.u, .slice A1 m.fl.length c1, .string m.tx]) (by simp [results, go_sem, l2, q2]) rfl ⟨m, _, rfl, Rests.now (D := D) (K := fun w => rdRegs w _ m.fl) ?_, HLA.out, HTA.out, ?_⟩
  · (repeat (first | (with_reducible exact HRA.out) | (with_reducible refine Rests.set ?_ HDA.out _)))
  · (repeat (first | (with_reducible exact HB.out) | (with_reducible exact Below.refl _ _) | (with_reducible refine below_set ?_ (by first | omega | (dsimp only; omega) | (simp; done) | (simp; omega)) _) | (with_reducible refine below_alloc ?_ _) | (with_reducible refine below_drewN ?_ _) | (with_reducible refine below_drew ?_)))
set_option maxHeartbeats 2000000 in
set_option maxRecDepth 100000 in
theorem drawReadMail_calls (w : World) (A : Option Addr) (c : Nat) (code : List Int) (h : rdBytes w (.slice A code.length c) code) :
    Calls Try.prog 61 #[.slice A code.length c] w fun e w' => ∃ (s : ByteArray) (p : Nat), e = .returned (.tuple #[.string s, .int .i64 p]) ∧ s.size ≤ 300 ∧ p ≤ s.size ∧ Below w.heap.size w w' := by
  have HR := Aside.mk h
  clear h
  obtain ⟨tx, htx⟩ : ∃ t : ByteArray, t = ⟨#[120]⟩ := ⟨_, rfl⟩
  obtain ⟨tm, htm⟩ : ∃ t : ByteArray, t = ⟨#[109, 111, 114, 101]⟩ := ⟨_, rfl⟩
  have htx1 : tx.size = 1 := by rw [htx]; rfl
  have htm1 : tm.size = 4 := by rw [htm]; rfl
  have HTX := Aside.mk htx
  have HTM := Aside.mk htm
  clear htx htm
  go_enter Try.func61, Try.ntmps61
  rw [← HTX.out, ← HTM.out]
  go_wp2_with (fail)
  refine (l01New_calls _ A c code HR.out).mono ?_
  rintro e w1 ⟨C, rfl, hc, hb⟩
  have HB := Aside.mk hb
  have HL := Aside.mk hc.ge
  have HW := Aside.mk (Went.refl hc)
  clear hb hc
  go_wp2_with (fail)
  refine (l01Below_calls w _ C _ HW.out.1).mono ?_
  rintro e w2 ⟨k, rfl, hk0, _, hk1, hw⟩
  replace HW := Aside.mk (HW.out.trans hw)
  clear hw hk0 hk1
  go_wp2_with (fail)
  refine (l05Any_calls w _ C HW.out.1).mono ?_
  rintro e w3 ⟨m, v, D, rfl, hr, hn, hl, ht, hw⟩
  replace HW := Aside.mk (HW.out.trans hw)
  have HRA := Aside.mk hr
  have HTA : Aside (m.tx.size ≤ 9223372036854775807) := ⟨by omega⟩
  clear hr hn hl ht hw
  go_wp2_with (fail)
  refine (specMailText_calls _ v m HRA.out.now HTA.out).mono ?_
  rintro e w4 ⟨s, ok, rfl, hs, hb⟩
  replace HW := Aside.mk (HW.out.below hb)
  clear hb HRA HTA
  have z1 : ¬ (9223372036854775807 < 1 + s.size) := by omega
  have z2 : ¬ (9223372036854775807 < s.size + 4) := by omega
  by_cases h0 : k = 0
  · subst h0
    go_wp2_with (fail)
    refine (l02Spoilt_calls w _ C s (by omega) HW.out.1).mono ?_
    rintro e w5 ⟨t, rfl, hs5, hw⟩
    replace HW := Aside.mk (HW.out.trans hw)
    clear hw
    go_wp2
    refine bodyPost_ret (v := .tuple #[.string t, .int .i64 0]) (by simp [results, go_sem]) rfl ⟨_, 0, rfl, by omega, Nat.zero_le _, HW.out.low HB.out HL.out⟩
  by_cases h1 : k = 1
  · subst h1
    clear h0
    go_wp2
    refine bodyPost_ret (v := .tuple #[.string (tx ++ s), .int .i64 1]) (by simp [results, go_sem]) rfl ⟨_, 1, rfl, by rw [ByteArray.size_append]; omega, by rw [ByteArray.size_append]; omega, HW.out.low HB.out HL.out⟩
  · go_wp2
    refine bodyPost_ret (v := .tuple #[.string (s ++ tm), .int .i64 0]) (by simp [results, go_sem]) rfl ⟨_, 0, rfl, by rw [ByteArray.size_append]; omega, Nat.zero_le _, HW.out.low HB.out HL.out⟩
set_option maxHeartbeats 2000000 in
set_option maxRecDepth 100000 in
theorem drawJoinMail_calls (w : World) (A : Option Addr) (c : Nat) (code : List Int) (h : rdBytes w (.slice A code.length c) code) :
    Calls Try.prog 62 #[.slice A code.length c] w (fun e w' => PairMail w w' e) := by
  have HR := Aside.mk h
  clear h
  go_enter Try.func62, Try.ntmps62
  go_wp2_with (fail)
  refine (l05Pair_calls _ A c code (rdBytes_mov (by (repeat (first | (with_reducible exact HB.out) | (with_reducible exact Below.refl _ _) | (with_reducible refine below_set ?_ (by first | omega | (dsimp only; omega) | (simp; done) | (simp; omega)) _) | (with_reducible refine below_alloc ?_ _) | (with_reducible refine below_drewN ?_ _) | (with_reducible refine below_drew ?_)))) HR.out)).mono ?_
  rintro e w1 ⟨a, b, va, vb, rfl, hra, hrb, hl, ht, hb⟩
  obtain ⟨Aa, ca, rfl, _, _⟩ := rd_len hra.now
  obtain ⟨Ab, cb, rfl, _, _⟩ := rd_len hrb.now
  obtain ⟨Da, hra, hga⟩ := hra
  obtain ⟨Db, hrb, hgb⟩ := hrb
  have HRA := Aside.mk hra
  have HRB := Aside.mk hrb
  have HDA : Aside (w.heap.size ∉ Da ∧ w.heap.size + 1 ∉ Da) := ⟨fun hx => by have h1 := hga _ hx; simp at h1; omega, fun hx => by have h1 := hga _ hx; simp at h1; omega⟩
  have HDB : Aside (w.heap.size ∉ Db ∧ w.heap.size + 1 ∉ Db) := ⟨fun hx => by have h1 := hgb _ hx; simp at h1; omega, fun hx => by have h1 := hgb _ hx; simp at h1; omega⟩
  have HGA : Aside (∀ b ∈ Da, w.heap.size ≤ b) := ⟨fun x hx => by have h1 := hga _ hx; simp at h1; omega⟩
  have HGB : Aside (∀ b ∈ Db, w.heap.size ≤ b) := ⟨fun x hx => by have h1 := hgb _ hx; simp at h1; omega⟩
  have HLL := Aside.mk hl
  have HTT := Aside.mk ht
  have L2 := Aside.mk (((Loc.new w #[.int .i64 0, .int .i64 0, .slice none 0 0, .string ⟨#[]⟩] 58).alloc (.cells #[.int .i64 0, .int .i64 0, .slice none 0 0, .string ⟨#[]⟩] 58)).below hb)
  have L3 := Aside.mk ((Loc.new1 w (.cells #[.int .i64 0, .int .i64 0, .slice none 0 0, .string ⟨#[]⟩] 58) #[.int .i64 0, .int .i64 0, .slice none 0 0, .string ⟨#[]⟩] 58).below hb)
  have HB : Aside (Below w.heap.size w w1) := ⟨below_step (by (repeat (first | (with_reducible exact HB.out) | (with_reducible exact Below.refl _ _) | (with_reducible refine below_set ?_ (by first | omega | (dsimp only; omega) | (simp; done) | (simp; omega)) _) | (with_reducible refine below_alloc ?_ _) | (with_reducible refine below_drewN ?_ _) | (with_reducible refine below_drew ?_)))) hb⟩
  clear hra hga hrb hgb hl ht hb
  have l2 := L2.out.cells
  have q2 := L2.out.lt
  have f2 := L2.out.free
  have l3 := L3.out.cells
  have q3 := L3.out.lt
  have f3 := L3.out.free
  go_wp2
  refine bodyPost_ret (v := .tuple #[.agg #[.int .i64 a.g, .int .i64 a.u, .slice Aa a.fl.length ca, .string a.tx], .agg #[.int .i64 b.g, .int .i64 b.u, .slice Ab b.fl.length cb, .string b.tx]]) (by simp [results, go_sem, l2, q2, l3, q3]) rfl (pairMail_of w _ _ _ _ _ _ _ _ _ _ _ Da Db ?_ ?_ HGA.out HGB.out HLL.out HTT.out ?_)
  · (repeat (first | (with_reducible exact HRA.out) | (with_reducible refine Rests.set ?_ HDA.out.1 _) | (with_reducible refine Rests.set ?_ HDA.out.2 _)))
  · (repeat (first | (with_reducible exact HRB.out) | (with_reducible refine Rests.set ?_ HDB.out.1 _) | (with_reducible refine Rests.set ?_ HDB.out.2 _)))
  · (repeat (first | (with_reducible exact HB.out) | (with_reducible exact Below.refl _ _) | (with_reducible refine below_set ?_ (by first | omega | (dsimp only; omega) | (simp; done) | (simp; omega)) _) | (with_reducible refine below_alloc ?_ _) | (with_reducible refine below_drewN ?_ _) | (with_reducible refine below_drew ?_)))
end Go.Proofs.Ytjfjpabfkembcaa.H
