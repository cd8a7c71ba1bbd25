/- The walk of the statement on ReadMail. Printed by this session's gen_lawreadmail.py. -/
import Derived.Test.YtjfjpabfkembcaaHMailV
import Derived.Test.YtjfjpabfkembcaaHRegY
import Derived.Test.YtjfjpabfkembcaaHReadMail
namespace Go.Proofs.Ytjfjpabfkembcaa.H
open Go.RowKit
set_option linter.unusedVariables false
set_option linter.unusedSimpArgs false
theorem regsS_len (t : ByteArray) : ∀ (k : Nat) (s : Int × Bool), (regsS t k s).1.length = k
  | 0, _ => rfl
  | k + 1, s => by simp only [regsS, List.length_cons, regsS_len t k]
theorem readMail_len (t : ByteArray) (p : Int) : (readMail t p).1.fl.length ≤ 3 := by
  unfold readMail
  split
  · exact Nat.zero_le _
  · exact Nat.le_of_eq (regsS_len t 3 _)
set_option maxHeartbeats 20000000 in
set_option maxRecDepth 100000 in
theorem lawFnExactReadMail (w : World) (t : ByteArray) (ht : t.size ≤ 140737488351232) (p : Int) (_ : (Lit.int .i64 p).wf = true) :
    Calls Try.prog 9 #[.string t, .int .i64 p] w fun e w' => e = .returned (.bool true) ∧ Below w.heap.size w w' := by
  obtain ⟨rb, n, ok, hrb⟩ : ∃ rb n ok, readMail t p = (rb, n, ok) := ⟨_, _, _, rfl⟩
  have HRR := Aside.mk hrb
  have hsm := readMail_len t p
  rw [hrb] at hsm
  have HSr : Aside ((rb.fl.length : Int) ≤ 1048576) := ⟨by dsimp only at hsm; omega⟩
  clear hrb hsm
  by_cases hbig : (1048576 : Int) < (t.size : Int)
  · go_enter Try.func9, Try.ntmps9
    go_wp2
    go_ret
    exact ⟨rfl, Below.refl _ _⟩
  have HB := Aside.mk (Below.refl w.heap.size w)
  go_enter Try.func9, Try.ntmps9
  try clear HWL
  have HWL : Aside (w.heap.size ≤ w.heap.size) := ⟨by have := HB.out.size; omega⟩
  go_wp2_with (fail)
  refine (specReadMail_calls _ t p ht).mono ?_
  rintro e wW ⟨fv, DW, he, ho, hn, hb⟩
  rw [HRR.out] at he ho
  dsimp only at he ho
  subst he
  obtain ⟨AW, cW, rfl⟩ := cell_own ow_reg ho
  have ANW := Aside.mk hn
  have LLW := Aside.mk hb.size
  have hOW := Aside.mk ho
  clear ho hn
  replace HB := Aside.mk (below_step HB.out hb)
  clear hb
  have HW := hOW
  have NW : Aside (New w wW DW) := ⟨ANW.out.from (by have := HWL.out; omega)⟩
  clear hOW
  replace HW := Aside.mk (owRow_alloc ow_reg HW.out (.cells #[.int .i64 rb.g, .int .i64 rb.u, .slice AW rb.fl.length cW, .string rb.tx] 58))
  replace NW := Aside.mk (NW.out.alloc (.cells #[.int .i64 rb.g, .int .i64 rb.u, .slice AW rb.fl.length cW, .string rb.tx] 58))
  have LW := Aside.mk (Loc.new wW #[.int .i64 rb.g, .int .i64 rb.u, .slice AW rb.fl.length cW, .string rb.tx] 58)
  replace HB := Aside.mk (below_alloc HB.out (.cells #[.int .i64 rb.g, .int .i64 rb.u, .slice AW rb.fl.length cW, .string rb.tx] 58))
  obtain ⟨BW, hBW⟩ : ∃ BW, BW = wW.heap.size := ⟨_, rfl⟩
  have OW : Aside (BW ∉ DW ∧ w.heap.size ≤ BW) := ⟨fun hx => by have := (ANW.out.2 _ hx).2; omega, by have := HWL.out; have := LLW.out; omega⟩
  rw [← hBW] at LW
  obtain ⟨vW, hvW⟩ : ∃ vW, vW = wW.alloc (.cells #[.int .i64 rb.g, .int .i64 rb.u, .slice AW rb.fl.length cW, .string rb.tx] 58) := ⟨_, rfl⟩
  go_wp2_with (fail)
  rw [← hvW] at LW HW NW HB
  try rw [← hBW]
  try rw [← hvW]
  clear hBW hvW ANW LLW
  (try clear lW)
  (try clear qW)
  (try clear fW)
  have lW := LW.out.cells
  have qW := LW.out.lt
  have fW := LW.out.free
  try clear HBLW HNLW
  have HBLW : Aside (BW < vW.heap.size) := ⟨LW.out.lt⟩
  have HNLW : Aside (∀ b ∈ DW, b < vW.heap.size) := ⟨fun b hb => (NW.out.2 b hb).2⟩
  try clear HWL
  have HWL : Aside (w.heap.size ≤ vW.heap.size) := ⟨by have := HB.out.size; omega⟩
  go_wp2_with (fail)
  refine (readMail_calls _ t p ht).mono ?_
  rintro e wG ⟨fv, DG, he, ho, hn, hb⟩
  rw [HRR.out] at he ho
  dsimp only at he ho
  subst he
  obtain ⟨AG, cG, rfl⟩ := cell_own ow_reg ho
  have ANG := Aside.mk hn
  have LLG := Aside.mk hb.size
  have hOG := Aside.mk ho
  clear ho hn
  replace LW := Aside.mk (LW.out.below hb)
  replace HW := Aside.mk (owRow_below ow_reg HW.out hb)
  replace NW := Aside.mk (NW.out.mono hb.size)
  replace HB := Aside.mk (below_step HB.out hb)
  (try clear lW)
  (try clear qW)
  (try clear fW)
  have lW := LW.out.cells
  have qW := LW.out.lt
  have fW := LW.out.free
  clear hb
  have APWG0 : Aside (BW ∉ DG ∧ ∀ b ∈ DW, b ∉ DG) := ⟨fun hx => by have := (ANG.out.2 _ hx).1; have := HBLW.out; omega, fun b hb hx => by have := HNLW.out _ hb; have := (ANG.out.2 _ hx).1; omega⟩
  have HG := hOG
  have NG : Aside (New w wG DG) := ⟨ANG.out.from (by have := HWL.out; omega)⟩
  clear hOG
  replace LW := Aside.mk (LW.out.alloc (.cells #[.int .i64 rb.g, .int .i64 rb.u, .slice AG rb.fl.length cG, .string rb.tx] 58))
  replace HW := Aside.mk (owRow_alloc ow_reg HW.out (.cells #[.int .i64 rb.g, .int .i64 rb.u, .slice AG rb.fl.length cG, .string rb.tx] 58))
  replace NW := Aside.mk (NW.out.alloc (.cells #[.int .i64 rb.g, .int .i64 rb.u, .slice AG rb.fl.length cG, .string rb.tx] 58))
  replace HG := Aside.mk (owRow_alloc ow_reg HG.out (.cells #[.int .i64 rb.g, .int .i64 rb.u, .slice AG rb.fl.length cG, .string rb.tx] 58))
  replace NG := Aside.mk (NG.out.alloc (.cells #[.int .i64 rb.g, .int .i64 rb.u, .slice AG rb.fl.length cG, .string rb.tx] 58))
  have LG := Aside.mk (Loc.new wG #[.int .i64 rb.g, .int .i64 rb.u, .slice AG rb.fl.length cG, .string rb.tx] 58)
  replace HB := Aside.mk (below_alloc HB.out (.cells #[.int .i64 rb.g, .int .i64 rb.u, .slice AG rb.fl.length cG, .string rb.tx] 58))
  obtain ⟨BG, hBG⟩ : ∃ BG, BG = wG.heap.size := ⟨_, rfl⟩
  have OG : Aside (BG ∉ DG ∧ w.heap.size ≤ BG) := ⟨fun hx => by have := (ANG.out.2 _ hx).2; omega, by have := HWL.out; have := LLG.out; omega⟩
  have APWG : Aside (BW ∉ DG ∧ BG ∉ DW ∧ ∀ b ∈ DW, b ∉ DG) := ⟨APWG0.out.1, fun hx => by have := HNLW.out _ hx; have := LLG.out; omega, APWG0.out.2⟩
  clear APWG0
  rw [← hBG] at LG
  obtain ⟨vG, hvG⟩ : ∃ vG, vG = wG.alloc (.cells #[.int .i64 rb.g, .int .i64 rb.u, .slice AG rb.fl.length cG, .string rb.tx] 58) := ⟨_, rfl⟩
  go_wp2_with (fail)
  rw [← hvG] at LW LG HW HG NW NG HB
  try rw [← hBG]
  try rw [← hvG]
  clear hBG hvG ANG LLG
  (try clear lW)
  (try clear qW)
  (try clear fW)
  (try clear lG)
  (try clear qG)
  (try clear fG)
  have lW := LW.out.cells
  have qW := LW.out.lt
  have fW := LW.out.free
  have lG := LG.out.cells
  have qG := LG.out.lt
  have fG := LG.out.free
  go_wp2_with (fail)
  refine (eqMail_calls _ _ _ rb (owRow_rd ow_reg HG.out) (owRow_rd ow_reg HW.out)).mono ?_
  rintro e w6 ⟨rfl, hb⟩
  replace LW := Aside.mk (LW.out.below hb)
  replace LG := Aside.mk (LG.out.below hb)
  replace HW := Aside.mk (owRow_below ow_reg HW.out hb)
  replace NW := Aside.mk (NW.out.mono hb.size)
  replace HG := Aside.mk (owRow_below ow_reg HG.out hb)
  replace NG := Aside.mk (NG.out.mono hb.size)
  replace HB := Aside.mk (below_step HB.out hb)
  (try clear lW)
  (try clear qW)
  (try clear fW)
  (try clear lG)
  (try clear qG)
  (try clear fG)
  have lW := LW.out.cells
  have qW := LW.out.lt
  have fW := LW.out.free
  have lG := LG.out.cells
  have qG := LG.out.lt
  have fG := LG.out.free
  clear hb
  go_wp2_with (fail)
  refine (markMail_calls _ DG _ rb 1 HG.out NG.out.1 (by decide) (by have := HSr.out; omega)).mono ?_
  rintro e w14 ⟨rfl, ⟨Dm, hom, _, _⟩, hk⟩
  replace LG := Aside.mk (LG.out.keep hk OG.out.1)
  replace LW := Aside.mk (LW.out.keep hk APWG.out.1)
  replace HW := Aside.mk (owRow_keep ow_reg HW.out hk APWG.out.2.2)
  replace NW := Aside.mk (NW.out.mono hk.size)
  replace HB := Aside.mk (NG.out.keepBelow hk HB.out (Nat.le_refl _))
  have HM := Aside.mk (owRow_rd ow_reg hom)
  clear hom
  clear hk HG NG
  have HG := HM
  clear HM
  (try clear lW)
  (try clear qW)
  (try clear fW)
  (try clear lG)
  (try clear qG)
  (try clear fG)
  have lW := LW.out.cells
  have qW := LW.out.lt
  have fW := LW.out.free
  have lG := LG.out.cells
  have qG := LG.out.lt
  have fG := LG.out.free
  obtain ⟨kg, hkg⟩ : ∃ kg : Int, kg = 1 + 3 * (rb.fl.length : Int) := ⟨_, rfl⟩
  have HKG := Aside.mk hkg
  have hkg0 : ¬ (kg < 0) := by omega
  rw [← hkg]
  clear hkg
  go_wp2_with (fail)
  refine (heldMail_calls _ _ rb 1 HG.out (by decide) (by have := HSr.out; omega)).mono ?_
  rintro e w15 ⟨rfl, hb⟩
  rw [← HKG.out]
  replace LW := Aside.mk (LW.out.below hb)
  replace LG := Aside.mk (LG.out.below hb)
  replace HW := Aside.mk (owRow_below ow_reg HW.out hb)
  replace NW := Aside.mk (NW.out.mono hb.size)
  replace HG := Aside.mk (rdRegs_mov hb HG.out)
  replace HB := Aside.mk (below_step HB.out hb)
  (try clear lW)
  (try clear qW)
  (try clear fW)
  (try clear lG)
  (try clear qG)
  (try clear fG)
  have lW := LW.out.cells
  have qW := LW.out.lt
  have fW := LW.out.free
  have lG := LG.out.cells
  have qG := LG.out.lt
  have fG := LG.out.free
  clear hb
  try clear HBLW HNLW
  have HBLW : Aside (BW < w15.heap.size) := ⟨LW.out.lt⟩
  have HNLW : Aside (∀ b ∈ DW, b < w15.heap.size) := ⟨fun b hb => (NW.out.2 b hb).2⟩
  try clear HWL
  have HWL : Aside (w.heap.size ≤ w15.heap.size) := ⟨by have := HB.out.size; omega⟩
  go_wp2_with (fail)
  refine (readMail_calls _ t p ht).mono ?_
  rintro e wH ⟨fv, DH, he, ho, hn, hb⟩
  rw [HRR.out] at he ho
  dsimp only at he ho
  subst he
  obtain ⟨AH, cH, rfl⟩ := cell_own ow_reg ho
  have ANH := Aside.mk hn
  have LLH := Aside.mk hb.size
  have hOH := Aside.mk ho
  clear ho hn
  replace LW := Aside.mk (LW.out.below hb)
  replace LG := Aside.mk (LG.out.below hb)
  replace HW := Aside.mk (owRow_below ow_reg HW.out hb)
  replace NW := Aside.mk (NW.out.mono hb.size)
  replace HG := Aside.mk (rdRegs_mov hb HG.out)
  replace HB := Aside.mk (below_step HB.out hb)
  (try clear lW)
  (try clear qW)
  (try clear fW)
  (try clear lG)
  (try clear qG)
  (try clear fG)
  have lW := LW.out.cells
  have qW := LW.out.lt
  have fW := LW.out.free
  have lG := LG.out.cells
  have qG := LG.out.lt
  have fG := LG.out.free
  clear hb
  have APWH0 : Aside (BW ∉ DH ∧ ∀ b ∈ DW, b ∉ DH) := ⟨fun hx => by have := (ANH.out.2 _ hx).1; have := HBLW.out; omega, fun b hb hx => by have := HNLW.out _ hb; have := (ANH.out.2 _ hx).1; omega⟩
  have HH := hOH
  have NH : Aside (New w wH DH) := ⟨ANH.out.from (by have := HWL.out; omega)⟩
  clear hOH
  replace LW := Aside.mk (LW.out.alloc (.cells #[.int .i64 rb.g, .int .i64 rb.u, .slice AH rb.fl.length cH, .string rb.tx] 58))
  replace LG := Aside.mk (LG.out.alloc (.cells #[.int .i64 rb.g, .int .i64 rb.u, .slice AH rb.fl.length cH, .string rb.tx] 58))
  replace HW := Aside.mk (owRow_alloc ow_reg HW.out (.cells #[.int .i64 rb.g, .int .i64 rb.u, .slice AH rb.fl.length cH, .string rb.tx] 58))
  replace NW := Aside.mk (NW.out.alloc (.cells #[.int .i64 rb.g, .int .i64 rb.u, .slice AH rb.fl.length cH, .string rb.tx] 58))
  replace HH := Aside.mk (owRow_alloc ow_reg HH.out (.cells #[.int .i64 rb.g, .int .i64 rb.u, .slice AH rb.fl.length cH, .string rb.tx] 58))
  replace NH := Aside.mk (NH.out.alloc (.cells #[.int .i64 rb.g, .int .i64 rb.u, .slice AH rb.fl.length cH, .string rb.tx] 58))
  replace HG := Aside.mk (rdRegs_mov (below_alloc (Below.refl _ _) (.cells #[.int .i64 rb.g, .int .i64 rb.u, .slice AH rb.fl.length cH, .string rb.tx] 58)) HG.out)
  have LH := Aside.mk (Loc.new wH #[.int .i64 rb.g, .int .i64 rb.u, .slice AH rb.fl.length cH, .string rb.tx] 58)
  replace HB := Aside.mk (below_alloc HB.out (.cells #[.int .i64 rb.g, .int .i64 rb.u, .slice AH rb.fl.length cH, .string rb.tx] 58))
  obtain ⟨BH, hBH⟩ : ∃ BH, BH = wH.heap.size := ⟨_, rfl⟩
  have OH : Aside (BH ∉ DH ∧ w.heap.size ≤ BH) := ⟨fun hx => by have := (ANH.out.2 _ hx).2; omega, by have := HWL.out; have := LLH.out; omega⟩
  have APWH : Aside (BW ∉ DH ∧ BH ∉ DW ∧ ∀ b ∈ DW, b ∉ DH) := ⟨APWH0.out.1, fun hx => by have := HNLW.out _ hx; have := LLH.out; omega, APWH0.out.2⟩
  clear APWH0
  rw [← hBH] at LH
  obtain ⟨vH, hvH⟩ : ∃ vH, vH = wH.alloc (.cells #[.int .i64 rb.g, .int .i64 rb.u, .slice AH rb.fl.length cH, .string rb.tx] 58) := ⟨_, rfl⟩
  go_wp2_with (fail)
  rw [← hvH] at LW LG LH HW HH NW NH HG HB
  try rw [← hBH]
  try rw [← hvH]
  clear hBH hvH ANH LLH
  (try clear lW)
  (try clear qW)
  (try clear fW)
  (try clear lG)
  (try clear qG)
  (try clear fG)
  (try clear lH)
  (try clear qH)
  (try clear fH)
  have lW := LW.out.cells
  have qW := LW.out.lt
  have fW := LW.out.free
  have lG := LG.out.cells
  have qG := LG.out.lt
  have fG := LG.out.free
  have lH := LH.out.cells
  have qH := LH.out.lt
  have fH := LH.out.free
  go_wp2_with (fail)
  refine (eqMail_calls _ _ _ rb (owRow_rd ow_reg HH.out) (owRow_rd ow_reg HW.out)).mono ?_
  rintro e w16 ⟨rfl, hb⟩
  replace LW := Aside.mk (LW.out.below hb)
  replace LG := Aside.mk (LG.out.below hb)
  replace LH := Aside.mk (LH.out.below hb)
  replace HW := Aside.mk (owRow_below ow_reg HW.out hb)
  replace NW := Aside.mk (NW.out.mono hb.size)
  replace HH := Aside.mk (owRow_below ow_reg HH.out hb)
  replace NH := Aside.mk (NH.out.mono hb.size)
  replace HG := Aside.mk (rdRegs_mov hb HG.out)
  replace HB := Aside.mk (below_step HB.out hb)
  (try clear lW)
  (try clear qW)
  (try clear fW)
  (try clear lG)
  (try clear qG)
  (try clear fG)
  (try clear lH)
  (try clear qH)
  (try clear fH)
  have lW := LW.out.cells
  have qW := LW.out.lt
  have fW := LW.out.free
  have lG := LG.out.cells
  have qG := LG.out.lt
  have fG := LG.out.free
  have lH := LH.out.cells
  have qH := LH.out.lt
  have fH := LH.out.free
  clear hb
  go_wp2_with (fail)
  refine (heldMail_calls _ _ rb 1 HG.out (by decide) (by have := HSr.out; omega)).mono ?_
  rintro e w17 ⟨rfl, hb⟩
  rw [← HKG.out]
  replace LW := Aside.mk (LW.out.below hb)
  replace LG := Aside.mk (LG.out.below hb)
  replace LH := Aside.mk (LH.out.below hb)
  replace HW := Aside.mk (owRow_below ow_reg HW.out hb)
  replace NW := Aside.mk (NW.out.mono hb.size)
  replace HH := Aside.mk (owRow_below ow_reg HH.out hb)
  replace NH := Aside.mk (NH.out.mono hb.size)
  replace HG := Aside.mk (rdRegs_mov hb HG.out)
  replace HB := Aside.mk (below_step HB.out hb)
  (try clear lW)
  (try clear qW)
  (try clear fW)
  (try clear lG)
  (try clear qG)
  (try clear fG)
  (try clear lH)
  (try clear qH)
  (try clear fH)
  have lW := LW.out.cells
  have qW := LW.out.lt
  have fW := LW.out.free
  have lG := LG.out.cells
  have qG := LG.out.lt
  have fG := LG.out.free
  have lH := LH.out.cells
  have qH := LH.out.lt
  have fH := LH.out.free
  clear hb
  go_wp2
  go_ret
  exact ⟨rfl, HB.out⟩
end Go.Proofs.Ytjfjpabfkembcaa.H
