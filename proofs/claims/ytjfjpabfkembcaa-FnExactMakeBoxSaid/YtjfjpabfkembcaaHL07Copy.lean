/- Copies of stores, the reference's: the walk. -/
import Derived.Test.YtjfjpabfkembcaaHL06Copy
import Derived.Test.YtjfjpabfkembcaaHLoc
import Derived.Laws.AppendOwnNone
namespace Go.Proofs.Ytjfjpabfkembcaa.H
open Go.RowKit
set_option linter.unusedVariables false
set_option linter.unusedSimpArgs false
set_option maxHeartbeats 2000000 in
set_option maxRecDepth 100000 in
theorem l07Copy_calls (w : World) (mv gv : Value) (b : Store) (h : rdBoxes w mv b.bx) (hg : rdInts w gv b.go) (hl : smStore b) :
    Calls Try.prog 90 #[.agg #[.int .i64 b.by_, .int .i64 b.tm, mv, gv]] w (RetStore w b) := by
  obtain ⟨A0, c0, rfl, _, hm⟩ := rd_len h
  obtain ⟨A1, n1, c1, rfl⟩ : ∃ A n c, gv = .slice A n c := by obtain ⟨A, c, e, _⟩ := rd_len hg; exact ⟨_, _, _, e⟩
  obtain ⟨i0, hi0, hz0, hz1, hz2⟩ := info_parts (show (Try.prog.info? 32).map (fun i => (i.zero, i.size, i.bytes)) = some (some (.agg #[.int .i64 0, .string ⟨#[]⟩, .int .i64 0, .int .i64 0, .int .i64 0, .slice none 0 0, .slice none 0 0]), 7, 96) by kernel_rfl)
  have hl4 : b.bx.length ≤ 4000000 := hl.1.1
  have hl5 : b.go.length ≤ 4000000 := hl.2
  obtain ⟨wz, hwz⟩ : ∃ wz : World, wz.heap.size = w.heap.size + 3 := ⟨((w.alloc (.cells #[] 0)).alloc (.cells #[] 0)).alloc (.cells #[] 0), by simp⟩
  have HZ := Aside.mk hwz
  clear hwz
  have HR := Aside.mk h
  have HG := Aside.mk hg
  have HL := Aside.mk hl
  clear h hg hl
  go_enter Try.func90, Try.ntmps90
  go_wp2
  have L1 := Aside.mk ((((Loc.new w #[.int .i64 b.by_, .int .i64 b.tm, .slice A0 b.bx.length c0, .slice A1 n1 c1] 45).alloc (.cells #[.int .i64 0, .int .i64 0, .slice none 0 0, .slice none 0 0] 45)).alloc (.cells #[.int .i64 b.by_, .int .i64 b.tm, .slice (some ⟨w.heap.size + 1 + 1 + 1, 0, none⟩) 0 0, .slice A1 n1 c1] 45)).alloc (.cells #[] 32))
  have L2 := Aside.mk (((Loc.new1 w (.cells #[.int .i64 b.by_, .int .i64 b.tm, .slice A0 b.bx.length c0, .slice A1 n1 c1] 45) #[.int .i64 0, .int .i64 0, .slice none 0 0, .slice none 0 0] 45).alloc (.cells #[.int .i64 b.by_, .int .i64 b.tm, .slice (some ⟨w.heap.size + 1 + 1 + 1, 0, none⟩) 0 0, .slice A1 n1 c1] 45)).alloc (.cells #[] 32))
  have L3 := Aside.mk ((Loc.new2 w (.cells #[.int .i64 b.by_, .int .i64 b.tm, .slice A0 b.bx.length c0, .slice A1 n1 c1] 45) (.cells #[.int .i64 0, .int .i64 0, .slice none 0 0, .slice none 0 0] 45) #[.int .i64 b.by_, .int .i64 b.tm, .slice (some ⟨w.heap.size + 1 + 1 + 1, 0, none⟩) 0 0, .slice A1 n1 c1] 45).alloc (.cells #[] 32))
  go_loopw [4] (fun v wr => ∃ (i : Nat) (Av : Option Addr) (nv cv : Nat) (D : List Nat), i ≤ b.bx.length ∧ v = .int .i64 i ∧ Aside (Loc wr w.heap.size #[.int .i64 b.by_, .int .i64 b.tm, .slice A0 b.bx.length c0, .slice A1 n1 c1] 45) ∧ Aside (Loc wr (w.heap.size + 1) #[.int .i64 0, .int .i64 0, .slice none 0 0, .slice none 0 0] 45) ∧ Aside (Loc wr (w.heap.size + 1 + 1) #[.int .i64 b.by_, .int .i64 b.tm, .slice Av nv cv, .slice A1 n1 c1] 45) ∧ Aside (owBoxes wr D (.slice Av nv cv) (b.bx.take i)) ∧ Aside (New wz wr D) ∧ Aside (Below w.heap.size w wr)) (fun v _ => b.bx.length - (intOf v).toNat)
  case atStart => exact ⟨0, _, _, _, [w.heap.size + 1 + 1 + 1], Nat.zero_le _, rfl, L1, L2, L3, ⟨⟨[], [], own_lit0 _ _ _ _ (by simp), by simp [Value.ownBlock], rfl, rfl⟩⟩, ⟨by simp, by have := HZ.out; simp; omega⟩, ⟨by (repeat (first | (with_reducible exact HB.out) | (with_reducible exact Below.refl _ _) | (with_reducible refine below_set ?_ (by first | omega | (dsimp only; omega) | (simp; done) | (simp; omega)) _) | (with_reducible refine below_alloc ?_ _) | (with_reducible refine below_drewN ?_ _) | (with_reducible refine below_drew ?_)))⟩⟩
  case round =>
    clear L1 L2 L3
    obtain ⟨i, Av, nv, cv, D, hi, rfl, L1, L2, L3, HO, HN, HB⟩ := hrel
    have l1 := L1.out.cells
    have l3 := L3.out.cells
    have k3 := L3.out.lt
    have HS : Aside (wz.heap.size ≤ wr.heap.size) := ⟨by have := HZ.out; omega⟩
    by_cases hlt : i < b.bx.length
    · obtain ⟨ad, fv, gw, hA, x0, x1, x2, x3, x4, x5, x6, hf, hh⟩ := rdBoxes_at (rdBoxes_mov HB.out HR.out) i hlt
      subst hA
      have HAD : Aside (ad.block < w.heap.size) := ⟨by
        obtain ⟨_, _, _, e, y0, _⟩ := rdBoxes_at HR.out i hlt
        injection e with e
        subst e
        have := World.block_lt_of_cell? w _ y0
        rwa [blk_add] at this⟩
      have hlm := HL.out.1.2 b.bx[i] (List.getElem_mem hlt)
      have HT : Aside (b.bx.take (i + 1) = b.bx.take i ++ [b.bx[i]]) := ⟨List.take_succ_eq_append_getElem hlt⟩
      generalize b.bx[i] = m at x0 x1 x2 x3 x4 x5 x6 hf hh hlm HT
      obtain ⟨Af, cf, rfl, _, _⟩ := rd_len hf
      obtain ⟨Ah, ch, rfl, _, _⟩ := rd_len hh
      have HF := Aside.mk hf
      have HH := Aside.mk hh
      clear hf hh
      have hq0 : (0 : Int) ≤ (i : Int) := by omega
      have hq1 : (i : Int) < (b.bx.length : Int) := by omega
      go_wp2
      refine zBegin (S := (fun w' => Loc w' w.heap.size #[.int .i64 b.by_, .int .i64 b.tm, .slice (some ad) b.bx.length c0, .slice A1 n1 c1] 45 ∧ Loc w' (w.heap.size + 1 + 1) #[.int .i64 b.by_, .int .i64 b.tm, .slice Av nv cv, .slice A1 n1 c1] 45 ∧ w'.cell? (ad.add (i * 7)) = some (.int .i64 m.g) ∧ w'.cell? ⟨(ad.add (i * 7)).block, (ad.add (i * 7)).off + 1, none⟩ = some (.string m.nm) ∧ w'.cell? ⟨(ad.add (i * 7)).block, (ad.add (i * 7)).off + 2, none⟩ = some (.int .i64 m.t) ∧ w'.cell? ⟨(ad.add (i * 7)).block, (ad.add (i * 7)).off + 3, none⟩ = some (.int .i64 m.b) ∧ w'.cell? ⟨(ad.add (i * 7)).block, (ad.add (i * 7)).off + 4, none⟩ = some (.int .i64 m.nx) ∧ w'.cell? ⟨(ad.add (i * 7)).block, (ad.add (i * 7)).off + 5, none⟩ = some (.slice Af m.ml.length cf) ∧ w'.cell? ⟨(ad.add (i * 7)).block, (ad.add (i * 7)).off + 6, none⟩ = some (.slice Ah m.go.length ch))) (z := 11) (by kernel_rfl) (by exact ⟨L1.out.drew', L3.out.drew', x0, x1, x2, x3, x4, x5, x6⟩) (fun hHeld => ?_)
      refine zT 0 15 hHeld ?_
      refine zT 1 16 hHeld ?_
      refine zT 2 17 hHeld ?_
      refine zT 3 18 hHeld ?_
      refine zT 4 19 hHeld ?_
      refine zT 5 20 hHeld ?_
      refine zT 6 21 hHeld ?_
      refine zReady (rs := [7]) (by kernel_rfl) (by simp) ?_
      refine zOne (by decide) rfl (fun K hK => ?_) zNil
      go_simp
      refine (l06Copy_calls _ _ _ m (rdMails_mov (below_drew (Below.refl _ _)) HF.out) (rdInts_mov (below_drew (Below.refl _ _)) HH.out) hlm).mono ?_; rintro e w1 ⟨fx, gx, Dx, rfl, hox, hnx, hb⟩; obtain ⟨Ax, cx, Ay, cy, _, _, rfl, rfl, _, _, _⟩ := box_parts hox; have HX := Aside.mk hox; have HNX := Aside.mk hnx; have HB1 := Aside.mk (below_step (w0 := wr) (below_drew (Below.refl _ _)) hb); clear hox hnx
      refine hK.out _ _ (by ((repeat' apply And.intro) <;> (first | exact Loc.below hHeld.1 hb | exact Loc.alloc hHeld.1 _ | exact cell_b hb hHeld.1 | exact cell_alloc' hHeld.1 _ | exact below_step hHeld.1 hb | exact below_alloc hHeld.1 _ | exact Loc.below hHeld hb | exact Loc.alloc hHeld _ | exact cell_b hb hHeld | exact cell_alloc' hHeld _ | exact below_step hHeld hb | exact below_alloc hHeld _ | exact Loc.below hHeld.2.1 hb | exact Loc.alloc hHeld.2.1 _ | exact cell_b hb hHeld.2.1 | exact cell_alloc' hHeld.2.1 _ | exact below_step hHeld.2.1 hb | exact below_alloc hHeld.2.1 _ | exact Loc.below hHeld.2 hb | exact Loc.alloc hHeld.2 _ | exact cell_b hb hHeld.2 | exact cell_alloc' hHeld.2 _ | exact below_step hHeld.2 hb | exact below_alloc hHeld.2 _ | exact Loc.below hHeld.2.2.1 hb | exact Loc.alloc hHeld.2.2.1 _ | exact cell_b hb hHeld.2.2.1 | exact cell_alloc' hHeld.2.2.1 _ | exact below_step hHeld.2.2.1 hb | exact below_alloc hHeld.2.2.1 _ | exact Loc.below hHeld.2.2 hb | exact Loc.alloc hHeld.2.2 _ | exact cell_b hb hHeld.2.2 | exact cell_alloc' hHeld.2.2 _ | exact below_step hHeld.2.2 hb | exact below_alloc hHeld.2.2 _ | exact Loc.below hHeld.2.2.2.1 hb | exact Loc.alloc hHeld.2.2.2.1 _ | exact cell_b hb hHeld.2.2.2.1 | exact cell_alloc' hHeld.2.2.2.1 _ | exact below_step hHeld.2.2.2.1 hb | exact below_alloc hHeld.2.2.2.1 _ | exact Loc.below hHeld.2.2.2 hb | exact Loc.alloc hHeld.2.2.2 _ | exact cell_b hb hHeld.2.2.2 | exact cell_alloc' hHeld.2.2.2 _ | exact below_step hHeld.2.2.2 hb | exact below_alloc hHeld.2.2.2 _ | exact Loc.below hHeld.2.2.2.2.1 hb | exact Loc.alloc hHeld.2.2.2.2.1 _ | exact cell_b hb hHeld.2.2.2.2.1 | exact cell_alloc' hHeld.2.2.2.2.1 _ | exact below_step hHeld.2.2.2.2.1 hb | exact below_alloc hHeld.2.2.2.2.1 _ | exact Loc.below hHeld.2.2.2.2 hb | exact Loc.alloc hHeld.2.2.2.2 _ | exact cell_b hb hHeld.2.2.2.2 | exact cell_alloc' hHeld.2.2.2.2 _ | exact below_step hHeld.2.2.2.2 hb | exact below_alloc hHeld.2.2.2.2 _ | exact Loc.below hHeld.2.2.2.2.2.1 hb | exact Loc.alloc hHeld.2.2.2.2.2.1 _ | exact cell_b hb hHeld.2.2.2.2.2.1 | exact cell_alloc' hHeld.2.2.2.2.2.1 _ | exact below_step hHeld.2.2.2.2.2.1 hb | exact below_alloc hHeld.2.2.2.2.2.1 _ | exact Loc.below hHeld.2.2.2.2.2 hb | exact Loc.alloc hHeld.2.2.2.2.2 _ | exact cell_b hb hHeld.2.2.2.2.2 | exact cell_alloc' hHeld.2.2.2.2.2 _ | exact below_step hHeld.2.2.2.2.2 hb | exact below_alloc hHeld.2.2.2.2.2 _ | exact Loc.below hHeld.2.2.2.2.2.2.1 hb | exact Loc.alloc hHeld.2.2.2.2.2.2.1 _ | exact cell_b hb hHeld.2.2.2.2.2.2.1 | exact cell_alloc' hHeld.2.2.2.2.2.2.1 _ | exact below_step hHeld.2.2.2.2.2.2.1 hb | exact below_alloc hHeld.2.2.2.2.2.2.1 _ | exact Loc.below hHeld.2.2.2.2.2.2 hb | exact Loc.alloc hHeld.2.2.2.2.2.2 _ | exact cell_b hb hHeld.2.2.2.2.2.2 | exact cell_alloc' hHeld.2.2.2.2.2.2 _ | exact below_step hHeld.2.2.2.2.2.2 hb | exact below_alloc hHeld.2.2.2.2.2.2 _ | exact Loc.below hHeld.2.2.2.2.2.2.2.1 hb | exact Loc.alloc hHeld.2.2.2.2.2.2.2.1 _ | exact cell_b hb hHeld.2.2.2.2.2.2.2.1 | exact cell_alloc' hHeld.2.2.2.2.2.2.2.1 _ | exact below_step hHeld.2.2.2.2.2.2.2.1 hb | exact below_alloc hHeld.2.2.2.2.2.2.2.1 _ | exact Loc.below hHeld.2.2.2.2.2.2.2 hb | exact Loc.alloc hHeld.2.2.2.2.2.2.2 _ | exact cell_b hb hHeld.2.2.2.2.2.2.2 | exact cell_alloc' hHeld.2.2.2.2.2.2.2 _ | exact below_step hHeld.2.2.2.2.2.2.2 hb | exact below_alloc hHeld.2.2.2.2.2.2.2 _ | exact Loc.below hHeld.2.2.2.2.2.2.2.2.1 hb | exact Loc.alloc hHeld.2.2.2.2.2.2.2.2.1 _ | exact cell_b hb hHeld.2.2.2.2.2.2.2.2.1 | exact cell_alloc' hHeld.2.2.2.2.2.2.2.2.1 _ | exact below_step hHeld.2.2.2.2.2.2.2.2.1 hb | exact below_alloc hHeld.2.2.2.2.2.2.2.2.1 _ | exact Loc.below hHeld.2.2.2.2.2.2.2.2 hb | exact Loc.alloc hHeld.2.2.2.2.2.2.2.2 _ | exact cell_b hb hHeld.2.2.2.2.2.2.2.2 | exact cell_alloc' hHeld.2.2.2.2.2.2.2.2 _ | exact below_step hHeld.2.2.2.2.2.2.2.2 hb | exact below_alloc hHeld.2.2.2.2.2.2.2.2 _))) (fun hHeld => ?_)
      clear hK K
      (try simp only [Act.put, List.setIfInBounds_toArray, List.set_cons_zero, List.set_cons_succ])
      clear hb
      refine zReady (rs := [8]) (by kernel_rfl) (by simp) ?_
      refine zOne (by decide) rfl (fun K hK => ?_) zNil
      go_simp
      refine hK.out _ _ (by ((repeat' apply And.intro) <;> (first | exact Loc.below hHeld.1 hb | exact Loc.alloc hHeld.1 _ | exact cell_b hb hHeld.1 | exact cell_alloc' hHeld.1 _ | exact below_step hHeld.1 hb | exact below_alloc hHeld.1 _ | exact Loc.below hHeld hb | exact Loc.alloc hHeld _ | exact cell_b hb hHeld | exact cell_alloc' hHeld _ | exact below_step hHeld hb | exact below_alloc hHeld _ | exact Loc.below hHeld.2.1 hb | exact Loc.alloc hHeld.2.1 _ | exact cell_b hb hHeld.2.1 | exact cell_alloc' hHeld.2.1 _ | exact below_step hHeld.2.1 hb | exact below_alloc hHeld.2.1 _ | exact Loc.below hHeld.2 hb | exact Loc.alloc hHeld.2 _ | exact cell_b hb hHeld.2 | exact cell_alloc' hHeld.2 _ | exact below_step hHeld.2 hb | exact below_alloc hHeld.2 _ | exact Loc.below hHeld.2.2.1 hb | exact Loc.alloc hHeld.2.2.1 _ | exact cell_b hb hHeld.2.2.1 | exact cell_alloc' hHeld.2.2.1 _ | exact below_step hHeld.2.2.1 hb | exact below_alloc hHeld.2.2.1 _ | exact Loc.below hHeld.2.2 hb | exact Loc.alloc hHeld.2.2 _ | exact cell_b hb hHeld.2.2 | exact cell_alloc' hHeld.2.2 _ | exact below_step hHeld.2.2 hb | exact below_alloc hHeld.2.2 _ | exact Loc.below hHeld.2.2.2.1 hb | exact Loc.alloc hHeld.2.2.2.1 _ | exact cell_b hb hHeld.2.2.2.1 | exact cell_alloc' hHeld.2.2.2.1 _ | exact below_step hHeld.2.2.2.1 hb | exact below_alloc hHeld.2.2.2.1 _ | exact Loc.below hHeld.2.2.2 hb | exact Loc.alloc hHeld.2.2.2 _ | exact cell_b hb hHeld.2.2.2 | exact cell_alloc' hHeld.2.2.2 _ | exact below_step hHeld.2.2.2 hb | exact below_alloc hHeld.2.2.2 _ | exact Loc.below hHeld.2.2.2.2.1 hb | exact Loc.alloc hHeld.2.2.2.2.1 _ | exact cell_b hb hHeld.2.2.2.2.1 | exact cell_alloc' hHeld.2.2.2.2.1 _ | exact below_step hHeld.2.2.2.2.1 hb | exact below_alloc hHeld.2.2.2.2.1 _ | exact Loc.below hHeld.2.2.2.2 hb | exact Loc.alloc hHeld.2.2.2.2 _ | exact cell_b hb hHeld.2.2.2.2 | exact cell_alloc' hHeld.2.2.2.2 _ | exact below_step hHeld.2.2.2.2 hb | exact below_alloc hHeld.2.2.2.2 _ | exact Loc.below hHeld.2.2.2.2.2.1 hb | exact Loc.alloc hHeld.2.2.2.2.2.1 _ | exact cell_b hb hHeld.2.2.2.2.2.1 | exact cell_alloc' hHeld.2.2.2.2.2.1 _ | exact below_step hHeld.2.2.2.2.2.1 hb | exact below_alloc hHeld.2.2.2.2.2.1 _ | exact Loc.below hHeld.2.2.2.2.2 hb | exact Loc.alloc hHeld.2.2.2.2.2 _ | exact cell_b hb hHeld.2.2.2.2.2 | exact cell_alloc' hHeld.2.2.2.2.2 _ | exact below_step hHeld.2.2.2.2.2 hb | exact below_alloc hHeld.2.2.2.2.2 _ | exact Loc.below hHeld.2.2.2.2.2.2.1 hb | exact Loc.alloc hHeld.2.2.2.2.2.2.1 _ | exact cell_b hb hHeld.2.2.2.2.2.2.1 | exact cell_alloc' hHeld.2.2.2.2.2.2.1 _ | exact below_step hHeld.2.2.2.2.2.2.1 hb | exact below_alloc hHeld.2.2.2.2.2.2.1 _ | exact Loc.below hHeld.2.2.2.2.2.2 hb | exact Loc.alloc hHeld.2.2.2.2.2.2 _ | exact cell_b hb hHeld.2.2.2.2.2.2 | exact cell_alloc' hHeld.2.2.2.2.2.2 _ | exact below_step hHeld.2.2.2.2.2.2 hb | exact below_alloc hHeld.2.2.2.2.2.2 _ | exact Loc.below hHeld.2.2.2.2.2.2.2.1 hb | exact Loc.alloc hHeld.2.2.2.2.2.2.2.1 _ | exact cell_b hb hHeld.2.2.2.2.2.2.2.1 | exact cell_alloc' hHeld.2.2.2.2.2.2.2.1 _ | exact below_step hHeld.2.2.2.2.2.2.2.1 hb | exact below_alloc hHeld.2.2.2.2.2.2.2.1 _ | exact Loc.below hHeld.2.2.2.2.2.2.2 hb | exact Loc.alloc hHeld.2.2.2.2.2.2.2 _ | exact cell_b hb hHeld.2.2.2.2.2.2.2 | exact cell_alloc' hHeld.2.2.2.2.2.2.2 _ | exact below_step hHeld.2.2.2.2.2.2.2 hb | exact below_alloc hHeld.2.2.2.2.2.2.2 _ | exact Loc.below hHeld.2.2.2.2.2.2.2.2.1 hb | exact Loc.alloc hHeld.2.2.2.2.2.2.2.2.1 _ | exact cell_b hb hHeld.2.2.2.2.2.2.2.2.1 | exact cell_alloc' hHeld.2.2.2.2.2.2.2.2.1 _ | exact below_step hHeld.2.2.2.2.2.2.2.2.1 hb | exact below_alloc hHeld.2.2.2.2.2.2.2.2.1 _ | exact Loc.below hHeld.2.2.2.2.2.2.2.2 hb | exact Loc.alloc hHeld.2.2.2.2.2.2.2.2 _ | exact cell_b hb hHeld.2.2.2.2.2.2.2.2 | exact cell_alloc' hHeld.2.2.2.2.2.2.2.2 _ | exact below_step hHeld.2.2.2.2.2.2.2.2 hb | exact below_alloc hHeld.2.2.2.2.2.2.2.2 _))) (fun hHeld => ?_)
      clear hK K
      (try simp only [Act.put, List.setIfInBounds_toArray, List.set_cons_zero, List.set_cons_succ])
      refine zReady (rs := [9]) (by kernel_rfl) (by simp) ?_
      refine zOne (by decide) rfl (fun K hK => ?_) zNil
      obtain ⟨xs, hown, FS⟩ := owRow_snoc ow_box (w0 := wz) (w := w1.alloc (.cells #[.int .i64 m.g, .string m.nm, .int .i64 m.t, .int .i64 m.b, .int .i64 m.nx, .slice Ax m.ml.length cx, .slice Ay m.go.length cy] 32)) (x := m) (cs := [.int .i64 m.g, .string m.nm, .int .i64 m.t, .int .i64 m.b, .int .i64 m.nx, .slice Ax m.ml.length cx, .slice Ay m.go.length cy]) (Dx := Dx) (owRow_below ow_box HO.out (below_alloc HB1.out _)) (ow_below ow_box HX.out (below_alloc (Below.refl _ _) _)) ((New.app HN.out HS.out (HNX.out.from (w0 := wr) (below_drew (Below.refl _ wr)).size) HB1.out.size).alloc _) (by have := HS.out; have := HB1.out.size; simp; omega); refine step_append_lies _ (by rfl) (.tmp 16) (.tmp 23) 43 (by rfl) 0 32 i0 (.agg #[.int .i64 0, .string ⟨#[]⟩, .int .i64 0, .int .i64 0, .int .i64 0, .slice none 0 0, .slice none 0 0]) 7 96 Try.underlying43 hi0 hz0 hz1 hz2 (by decide) (by decide) (.slice Av nv cv) (b.bx.take i).length xs (by rfl) hown ⟨w1.heap.size, 0, none⟩ 1 1 [.int .i64 m.g, .string m.nm, .int .i64 m.t, .int .i64 m.b, .int .i64 m.nx, .slice Ax m.ml.length cx, .slice Ay m.go.length cy] (by rfl) rfl (World.news_of_block (heap_alloc_new w1 _)) (by simp [Value.oneCell']) (by decide) (by unfold maxLen; rw [List.length_take]; omega) (by rw [List.length_take]; omega) (Nat.zero_le _) (w1.heap.size + 1) (by simp) ?_; intro g cap w2 hown2 hgrow hat hlt2; obtain ⟨D2, hk1, hk2⟩ := FS _ _ hown2 hgrow (hat.imp (fun h => h.symm) (fun h => by rw [h]; simp [Value.ownBlock])); have hrow : ∀ x, (Value.slice Av nv cv).ownBlock = some x → w.heap.size + 3 ≤ x ∧ x < wr.heap.size := (fun x hx => by have h1 := HN.out.2 x (own_in HO.out hx); have h2 := HZ.out; omega); have n1 : some w.heap.size ≠ (Value.slice Av nv cv).ownBlock := (fun e => by have := hrow _ e.symm; omega); have n3 : some (w.heap.size + 1 + 1) ≠ (Value.slice Av nv cv).ownBlock := (fun e => by have := hrow _ e.symm; omega); have na : some (ad.add (i * 7)).block ≠ (Value.slice Av nv cv).ownBlock := (fun e => by have := hrow _ e.symm; have := HAD.out; rw [blk_add] at *; omega)
      refine hK.out _ _ (by exact ⟨hHeld.1.grown hgrow n1, hHeld.2.1.grown hgrow n3, cell_grown hHeld.2.2.1 hgrow na, cell_grown hHeld.2.2.2.1 hgrow na, cell_grown hHeld.2.2.2.2.1 hgrow na, cell_grown hHeld.2.2.2.2.2.1 hgrow na, cell_grown hHeld.2.2.2.2.2.2.1 hgrow na, cell_grown hHeld.2.2.2.2.2.2.2.1 hgrow na, cell_grown hHeld.2.2.2.2.2.2.2.2 hgrow na⟩) (fun hHeld => ?_)
      clear hK K
      (try simp only [Act.put, List.setIfInBounds_toArray, List.set_cons_zero, List.set_cons_succ])
      have HRW := Aside.mk hrow; have HGR := Aside.mk hgrow; have HK1 := Aside.mk hk1; have HK2 := Aside.mk hk2; have L1b := Aside.mk hHeld.1; have L3b := Aside.mk hHeld.2.1; clear hown2 hgrow hat hown FS hk1 hk2 hrow n1 n3 na hlt2; have l3b := L3b.out.cells; have f3b := L3b.out.free; have k3b := L3b.out.lt
      refine zT 10 25 hHeld ?_
      refine zReady (rs := [11]) (by kernel_rfl) (by simp) ?_
      refine zLast rfl (fun K hK => ?_) zNil
      go_simp
      refine hK.out _ _ ?_
      clear hK K
      (try simp only [Act.put, List.setIfInBounds_toArray, List.set_cons_zero, List.set_cons_succ])
      refine zDone (by kernel_rfl) ?_ _
      clear hHeld
      have hti : (b.bx.take i).length = i := by rw [List.length_take]; omega
      have n2 : some (w.heap.size + 1) ≠ (Value.slice Av nv cv).ownBlock := fun e => by have := HRW.out _ e.symm; omega
      have L1' := Aside.mk (L1b.out.set (p := ⟨w.heap.size + 1 + 1, 2, none⟩) (by show _ ≠ w.heap.size + 1 + 1; omega) (.slice (some ⟨g, 0, none⟩) (i + 1) cap))
      have L2' := Aside.mk ((((L2.out.below HB1.out).alloc _).grown HGR.out n2).set (p := ⟨w.heap.size + 1 + 1, 2, none⟩) (by show _ ≠ w.heap.size + 1 + 1; omega) (.slice (some ⟨g, 0, none⟩) (i + 1) cap))
      have L3' := Aside.mk (L3b.out.put 2 (.slice (some ⟨g, 0, none⟩) (i + 1) cap))
      have HO' := Aside.mk (owRow_set ow_box (show owBoxes _ _ (.slice (some ⟨g, 0, none⟩) (i + 1) cap) _ from hti ▸ HK1.out) (p := ⟨w.heap.size + 1 + 1, 2, none⟩) (fun hx => by have := (HK2.out.2 _ hx).1; have h2 := HZ.out; rw [h2] at this; have h3 : w.heap.size + 3 ≤ w.heap.size + 1 + 1 := this; omega) (.slice (some ⟨g, 0, none⟩) (i + 1) cap))
      have HN' := Aside.mk (HK2.out.set ⟨w.heap.size + 1 + 1, 2, none⟩ (.slice (some ⟨g, 0, none⟩) (i + 1) cap))
      have HB' := Aside.mk (((below_step HB.out (below_alloc HB1.out _)).grown HGR.out (by have := HB.out.size; have := HB1.out.size; simp; omega) (fun x hx => by have := HRW.out x hx; omega)).setCell (p := ⟨w.heap.size + 1 + 1, 2, none⟩) (by simp; omega) (.slice (some ⟨g, 0, none⟩) (i + 1) cap))
      go_wp2
      go_roundw
      case rel => exact ⟨i + 1, _, _, _, D2, by omega, by go_num, L1', L2', L3', ⟨by rw [HT.out]; exact HO'.out⟩, HN', HB'⟩
      case measure => simp [intOf]; omega
    · have hz : i = b.bx.length := by omega
      have hge : ¬ ((i : Int) < (b.bx.length : Int)) := by omega
      have HO1 : Aside (owBoxes wr D (.slice Av nv cv) b.bx) := ⟨by have := HO.out; rw [hz, List.take_length] at this; exact this⟩
      have HGr := Aside.mk (rdInts_mov HB.out HG.out)
      have k1 := L1.out.lt
      clear HO hlt hz
      obtain ⟨j0, hj0, hy0, hy1, hy2⟩ := info_parts (show (Try.prog.info? 3).map (fun i => (i.zero, i.size, i.bytes)) = some (some (.int .i64 0), 1, 8) by kernel_rfl)
      have HDm : Aside (∀ x ∈ D, w.heap.size + 1 + 1 + 1 ≤ x) := ⟨fun x hx => by have := (HN.out.2 x hx).1; have := HZ.out; omega⟩
      have m2 : some (w.heap.size + 1) ≠ some wr.heap.size := fun e => by injection e with e; omega
      have m3 : some (w.heap.size + 1 + 1) ≠ some wr.heap.size := fun e => by injection e with e; omega
      rcases rd_form HGr.out with ⟨e, hgo⟩ | ⟨ag, cg, e⟩
      · injection e with e1 e2 e3
        subst e1 e2 e3
        have HGO := Aside.mk hgo
        clear hgo
        have l2 := L2.out.cells
        have q2 := L2.out.lt
        have f2 := L2.out.free
        have f3 := L3.out.free
        have HOg : Aside (∀ W : World, wr.heap.size = W.heap.size → owInts (W.alloc (.cells #[] 3)) [wr.heap.size] (.slice (some ⟨wr.heap.size, 0, none⟩) 0 0) b.go) := ⟨fun W hW => by rw [HGO.out]; exact ⟨[], [], own_lit0 _ _ _ _ hW, rfl, rfl, rfl⟩⟩
        have HN0 : Aside (New w (wr.alloc (.cells #[] 3)) (D ++ [wr.heap.size])) := ⟨(New.app HN.out (by have := HZ.out; omega) (w1 := wr.alloc (.cells #[] 3)) (D' := [wr.heap.size]) ⟨by simp, by simp⟩ (by simp)).from (by have := HZ.out; omega)⟩
        have HDg : Aside (∀ x ∈ [wr.heap.size], w.heap.size + 1 + 1 + 1 ≤ x) := ⟨fun x hx => by simp at hx; subst hx; omega⟩
        go_wp2_with (fail)
        refine bodyPost_ret (v := .agg #[.int .i64 b.by_, .int .i64 b.tm, .slice Av nv cv, .slice (some ⟨wr.heap.size, 0, none⟩) 0 0]) (by simp [results, go_sem, l2, l3, q2, k3]) rfl ⟨_, _, D ++ [wr.heap.size], rfl, ⟨_, _, D, [wr.heap.size], rfl, rfl, ?_, ?_⟩, HN0.out.mono (by simp), ?_⟩
        · (repeat (first | (with_reducible exact HO1.out) | (with_reducible refine owRow_far ow_box (w.heap.size + 1 + 1 + 1) ?_ HDm.out (by first | omega | (dsimp only; omega) | (simp; done) | (simp; omega)) _) | (with_reducible refine owRow_alloc ow_box ?_ _)))
        · (repeat (first | (exact HOg.out _ (by simp)) | (with_reducible refine owRow_far ow_int (w.heap.size + 1 + 1 + 1) ?_ HDg.out (by first | omega | (dsimp only; omega) | (simp; done) | (simp; omega)) _)))
        · (repeat (first | (with_reducible exact HB.out) | (with_reducible exact Below.refl _ _) | (with_reducible refine below_set ?_ (by first | omega | (dsimp only; omega) | (simp; done) | (simp; omega)) _) | (with_reducible refine below_alloc ?_ _) | (with_reducible refine below_drewN ?_ _) | (with_reducible refine below_drew ?_)))
      · injection e with e1 e2 e3
        subst e1 e2 e3
        obtain ⟨news, hel, hnews⟩ := rd_flat (R := owInt wr) HGr.out (fun cs x hk => ⟨⟨rfl, hk⟩, by rw [hk]; rfl⟩)
        have hlen := owEl_len (fun hR => ow_int.len hR) hel
        have hone := owEl_ones (fun hR => ow_int.one hR) hel
        have HEL := Aside.mk hel
        have hnews2 : ∀ j u, news[j]? = some u → (wr.alloc (.cells #[] 3)).cell? (ag.add j) = some u := fun j u hu => cell_b ((Below.refl _ wr).alloc (Nat.le_refl _) _) (hnews j u hu)
        have HLN := Aside.mk hlen
        have HO2 := Aside.mk hone
        have HNW := Aside.mk hnews2
        clear hel hnews hnews2 hlen hone
        go_wp2_with (at_builtin; refine wpList_append_own_at _ rfl _ _ 25 rfl 0 3 j0 (.int .i64 0) 1 8 Try.underlying25 hj0 hy0 hy1 hy2 rfl (by decide) (.slice (some ⟨wr.heap.size, 0, none⟩) 0 0) 0 [] rfl (World.ownsRow_made wr #[] 0 (Nat.zero_le _) (Nat.zero_le _) rfl) ag b.go.length c1 news rfl HLN.out HNW.out HO2.out (by unfold maxLen; omega) (by omega) (Nat.zero_le _) ?_; intro v' w' hown hgrow hnil hat; simp only [Nat.zero_add, List.nil_append] at hown; have HW := Aside.mk hown; have HGW := Aside.mk hgrow; have HA := Aside.mk hat; have L2b := Aside.mk ((L2.out.alloc (.cells #[] 3)).grown hgrow m2); have L3b := Aside.mk ((L3.out.alloc (.cells #[] 3)).grown hgrow m3); clear hown hgrow hnil hat l1 l3 k3; obtain ⟨Dg, k1, k2, k3⟩ := row_of_append1 (R := owInt) (fun _ _ => rfl) HEL.out HW.out HGW.out (HA.out.imp id (fun h => by simpa using h)); obtain ⟨Ah, ch, rfl⟩ := cell_own ow_int k1; have HOg := Aside.mk k1; have HNg := Aside.mk k2; have HBg := Aside.mk k3; clear k1 k2 k3 HA; have l2 := L2b.out.cells; have l3 := L3b.out.cells; have q2 := L2b.out.lt; have q3 := L3b.out.lt; have f2 := L2b.out.free; have f3 := L3b.out.free)
        have HDg : Aside (∀ x ∈ Dg, w.heap.size + 1 + 1 + 1 ≤ x) := ⟨fun x hx => by have := (HNg.out.2 x hx).1; have := HZ.out; have := HS.out; omega⟩
        have HOm := Aside.mk (owRow_below ow_box HO1.out HBg.out)
        have HN0 := Aside.mk ((New.app HN.out HS.out HNg.out HBg.out.size).from (w0 := w) (by have := HZ.out; omega))
        replace HB := Aside.mk (below_step HB.out HBg.out)
        refine bodyPost_ret (v := .agg #[.int .i64 b.by_, .int .i64 b.tm, .slice Av nv cv, .slice Ah b.go.length ch]) (by simp [results, go_sem, l2, l3, q2, q3]) rfl ⟨_, _, D ++ Dg, rfl, ⟨_, _, D, Dg, rfl, rfl, ?_, ?_⟩, ?_, ?_⟩
        · (repeat (first | (with_reducible exact HOm.out) | (with_reducible refine owRow_far ow_box (w.heap.size + 1 + 1 + 1) ?_ HDm.out (by first | omega | (dsimp only; omega) | (simp; done) | (simp; omega)) _) | (with_reducible refine owRow_alloc ow_box ?_ _)))
        · (repeat (first | (with_reducible exact HOg.out) | (with_reducible refine owRow_far ow_int (w.heap.size + 1 + 1 + 1) ?_ HDg.out (by first | omega | (dsimp only; omega) | (simp; done) | (simp; omega)) _) | (with_reducible refine owRow_alloc ow_int ?_ _)))
        · (repeat (first | (with_reducible exact HN0.out) | (with_reducible refine New.set ?_ _ _) | (with_reducible refine New.alloc ?_ _) | (with_reducible refine New.drew ?_)))
        · (repeat (first | (with_reducible exact HB.out) | (with_reducible exact Below.refl _ _) | (with_reducible refine below_set ?_ (by first | omega | (dsimp only; omega) | (simp; done) | (simp; omega)) _) | (with_reducible refine below_alloc ?_ _) | (with_reducible refine below_drewN ?_ _) | (with_reducible refine below_drew ?_)))
end Go.Proofs.Ytjfjpabfkembcaa.H
