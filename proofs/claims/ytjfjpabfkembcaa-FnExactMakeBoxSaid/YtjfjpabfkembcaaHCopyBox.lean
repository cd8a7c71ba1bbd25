/- Copies of boxes: the walks. -/
import Derived.Test.YtjfjpabfkembcaaHCopy2
import Derived.Test.YtjfjpabfkembcaaHTo2
import Derived.Test.YtjfjpabfkembcaaHRegZ
namespace Go.Proofs.Ytjfjpabfkembcaa.H
open Go.RowKit
set_option linter.unusedVariables false
set_option linter.unusedSimpArgs false
theorem own_lit0 (W : World) (g e sz : Nat) (hg : g = W.heap.size) : (W.alloc (.cells #[] e)).ownsRow 0 e sz (.slice (some ⟨g, 0, none⟩) 0 0) 0 [] := by
  subst hg
  exact World.ownsRow_made W #[] 0 (Nat.zero_le _) (Nat.zero_le _) (by simp)
theorem Loc.grown {w w' : World} {b : Nat} {cs : Array Value} {t : TypeId} {row : Option Nat} (h : Loc w b cs t) (hg : w.grownBy w' row) (hne : some b ≠ row) : Loc w' b cs t := (hg.block b h.lt hne).trans h
theorem Loc.put {w : World} {b : Nat} {cs : Array Value} {t : TypeId} (h : Loc w b cs t) (j : Nat) (u : Value) : Loc (w.setCell ⟨b, j, none⟩ u) b (cs.setIfInBounds j u) t := heap_setCell_same w b j cs t u h
theorem own_in {α : Type} {e sz : Nat} {R : World → List Nat → List Value → α → Prop} {w : World} {D : List Nat} {v : Value} {l : List α} (h : owRow e sz R w D v l) {k : Nat} (hk : v.ownBlock = some k) : k ∈ D := by
  obtain ⟨xs, Di, _, h2, _⟩ := h
  rw [h2, hk]
  simp
theorem New.from' {w0 w w1 : World} {D : List Nat} (h : New w w1 D) (hs : w0.heap.size ≤ w.heap.size) : New w0 w1 D := h.from hs
set_option maxHeartbeats 2000000 in
set_option maxRecDepth 100000 in
theorem copyBox_calls (w : World) (mv gv : Value) (b : Box) (h : rdMails w mv b.ml) (hg : rdInts w gv b.go) (hl : smBox b) :
    Calls Try.prog 76 #[.agg #[.int .i64 b.g, .string b.nm, .int .i64 b.t, .int .i64 b.b, .int .i64 b.nx, mv, gv]] w (RetBox w b) := by
  obtain ⟨A0, c0, rfl, _, hm⟩ := rd_len h
  obtain ⟨A1, c1, rfl, _, _⟩ := rd_len hg
  obtain ⟨i0, hi0, hz0, hz1, hz2⟩ := info_parts (show (Try.prog.info? 58).map (fun i => (i.zero, i.size, i.bytes)) = some (some (.agg #[.int .i64 0, .int .i64 0, .slice none 0 0, .string ⟨#[]⟩]), 4, 56) by kernel_rfl)
  have hl4 : b.ml.length ≤ 4000000 := hl.1.1
  obtain ⟨wz, hwz⟩ : ∃ wz : World, wz.heap.size = w.heap.size + 3 := ⟨((w.alloc (.cells #[] 0)).alloc (.cells #[] 0)).alloc (.cells #[] 0), by simp⟩
  have HZ := Aside.mk hwz
  clear hwz
  have HR := Aside.mk h
  have HG := Aside.mk hg
  have HL := Aside.mk hl
  clear h hg hl
  go_enter Try.func76, Try.ntmps76
  go_wp2
  have L1 := Aside.mk ((((Loc.new w #[.int .i64 b.g, .string b.nm, .int .i64 b.t, .int .i64 b.b, .int .i64 b.nx, .slice A0 b.ml.length c0, .slice A1 b.go.length c1] 32).alloc (.cells #[.int .i64 0, .string ⟨#[]⟩, .int .i64 0, .int .i64 0, .int .i64 0, .slice none 0 0, .slice none 0 0] 32)).alloc (.cells #[.int .i64 b.g, .string b.nm, .int .i64 b.t, .int .i64 b.b, .int .i64 b.nx, .slice (some ⟨w.heap.size + 1 + 1 + 1, 0, none⟩) 0 0, .slice A1 b.go.length c1] 32)).alloc (.cells #[] 58))
  have L2 := Aside.mk (((Loc.new1 w (.cells #[.int .i64 b.g, .string b.nm, .int .i64 b.t, .int .i64 b.b, .int .i64 b.nx, .slice A0 b.ml.length c0, .slice A1 b.go.length c1] 32) #[.int .i64 0, .string ⟨#[]⟩, .int .i64 0, .int .i64 0, .int .i64 0, .slice none 0 0, .slice none 0 0] 32).alloc (.cells #[.int .i64 b.g, .string b.nm, .int .i64 b.t, .int .i64 b.b, .int .i64 b.nx, .slice (some ⟨w.heap.size + 1 + 1 + 1, 0, none⟩) 0 0, .slice A1 b.go.length c1] 32)).alloc (.cells #[] 58))
  have L3 := Aside.mk ((Loc.new2 w (.cells #[.int .i64 b.g, .string b.nm, .int .i64 b.t, .int .i64 b.b, .int .i64 b.nx, .slice A0 b.ml.length c0, .slice A1 b.go.length c1] 32) (.cells #[.int .i64 0, .string ⟨#[]⟩, .int .i64 0, .int .i64 0, .int .i64 0, .slice none 0 0, .slice none 0 0] 32) #[.int .i64 b.g, .string b.nm, .int .i64 b.t, .int .i64 b.b, .int .i64 b.nx, .slice (some ⟨w.heap.size + 1 + 1 + 1, 0, none⟩) 0 0, .slice A1 b.go.length c1] 32).alloc (.cells #[] 58))
  go_loopw [12] (fun v wr => ∃ (i : Nat) (Av : Option Addr) (nv cv : Nat) (D : List Nat), i ≤ b.ml.length ∧ v = .int .i64 i ∧ Aside (Loc wr w.heap.size #[.int .i64 b.g, .string b.nm, .int .i64 b.t, .int .i64 b.b, .int .i64 b.nx, .slice A0 b.ml.length c0, .slice A1 b.go.length c1] 32) ∧ Aside (Loc wr (w.heap.size + 1) #[.int .i64 0, .string ⟨#[]⟩, .int .i64 0, .int .i64 0, .int .i64 0, .slice none 0 0, .slice none 0 0] 32) ∧ Aside (Loc wr (w.heap.size + 1 + 1) #[.int .i64 b.g, .string b.nm, .int .i64 b.t, .int .i64 b.b, .int .i64 b.nx, .slice Av nv cv, .slice A1 b.go.length c1] 32) ∧ Aside (owMails wr D (.slice Av nv cv) (b.ml.take i)) ∧ Aside (New wz wr D) ∧ Aside (Below w.heap.size w wr)) (fun v _ => b.ml.length - (intOf v).toNat)
  case atStart => exact ⟨0, _, _, _, [w.heap.size + 1 + 1 + 1], Nat.zero_le _, rfl, L1, L2, L3, ⟨⟨[], [], own_lit0 _ _ _ _ (by simp), by simp [Value.ownBlock], rfl, rfl⟩⟩, ⟨by simp, by have := HZ.out; simp; omega⟩, ⟨by (repeat (first | (with_reducible exact HB.out) | (with_reducible exact Below.refl _ _) | (with_reducible refine below_set ?_ (by first | omega | (dsimp only; omega) | (simp; done) | (simp; omega)) _) | (with_reducible refine below_alloc ?_ _) | (with_reducible refine below_drewN ?_ _) | (with_reducible refine below_drew ?_)))⟩⟩
  case round =>
    clear L1 L2 L3
    obtain ⟨i, Av, nv, cv, D, hi, rfl, L1, L2, L3, HO, HN, HB⟩ := hrel
    have l1 := L1.out.cells
    have l3 := L3.out.cells
    have k3 := L3.out.lt
    have HS : Aside (wz.heap.size ≤ wr.heap.size) := ⟨by have := HZ.out; omega⟩
    by_cases hlt : i < b.ml.length
    · obtain ⟨ad, fv, hA, x0, x1, x2, x3, hf⟩ := rdMails_at (rdMails_mov HB.out HR.out) i hlt
      subst hA
      have hlm := HL.out.1.2 b.ml[i] (List.getElem_mem hlt)
      have HT : Aside (b.ml.take (i + 1) = b.ml.take i ++ [b.ml[i]]) := ⟨List.take_succ_eq_append_getElem hlt⟩
      generalize b.ml[i] = m at x0 x1 x2 x3 hf hlm HT
      obtain ⟨Af, cf, rfl, _, _⟩ := rd_len hf
      have HF := Aside.mk hf
      clear hf
      go_wp2
      refine zBegin (S := (fun w' => Loc w' (w.heap.size + 1 + 1) #[.int .i64 b.g, .string b.nm, .int .i64 b.t, .int .i64 b.b, .int .i64 b.nx, .slice Av nv cv, .slice A1 b.go.length c1] 32 ∧ Loc w' wr.heap.size #[.int .i64 m.g, .int .i64 m.u, .slice Af m.fl.length cf, .string m.tx] 58)) (z := 7) (by kernel_rfl) (by exact ⟨(L3.out.alloc _).drew', (Loc.new wr _ _).drew'⟩) (fun hHeld => ?_)
      refine zT 0 16 hHeld ?_
      refine zT 1 17 hHeld ?_
      refine zT 2 18 hHeld ?_
      refine zReady (rs := [3]) (by kernel_rfl) (by simp) ?_
      refine zOne (by decide) rfl (fun K hK => ?_) zNil
      go_simp
      refine (copyMail_calls _ _ m (rdRegs_mov (below_drew (below_alloc (Below.refl _ _) _)) HF.out) hlm).mono ?_; rintro e w1 ⟨fx, Dx, rfl, hox, hnx, hb⟩; obtain ⟨Ax, cx, rfl⟩ := cell_own ow_reg hox; have HX := Aside.mk hox; have HNX := Aside.mk hnx; have HB1 := Aside.mk (below_step (w0 := wr) (below_drew (below_alloc (Below.refl _ _) _)) hb); clear hox hnx
      refine hK.out _ _ (by ((repeat' apply And.intro) <;> (first | exact Loc.below hHeld.1 hb | exact Loc.alloc hHeld.1 _ | exact cell_b hb hHeld.1 | exact cell_alloc' hHeld.1 _ | exact below_step hHeld.1 hb | exact below_alloc hHeld.1 _ | exact Loc.below hHeld hb | exact Loc.alloc hHeld _ | exact cell_b hb hHeld | exact cell_alloc' hHeld _ | exact below_step hHeld hb | exact below_alloc hHeld _ | exact Loc.below hHeld.2.1 hb | exact Loc.alloc hHeld.2.1 _ | exact cell_b hb hHeld.2.1 | exact cell_alloc' hHeld.2.1 _ | exact below_step hHeld.2.1 hb | exact below_alloc hHeld.2.1 _ | exact Loc.below hHeld.2 hb | exact Loc.alloc hHeld.2 _ | exact cell_b hb hHeld.2 | exact cell_alloc' hHeld.2 _ | exact below_step hHeld.2 hb | exact below_alloc hHeld.2 _ | exact Loc.below hHeld.2.2.1 hb | exact Loc.alloc hHeld.2.2.1 _ | exact cell_b hb hHeld.2.2.1 | exact cell_alloc' hHeld.2.2.1 _ | exact below_step hHeld.2.2.1 hb | exact below_alloc hHeld.2.2.1 _ | exact Loc.below hHeld.2.2 hb | exact Loc.alloc hHeld.2.2 _ | exact cell_b hb hHeld.2.2 | exact cell_alloc' hHeld.2.2 _ | exact below_step hHeld.2.2 hb | exact below_alloc hHeld.2.2 _ | exact Loc.below hHeld.2.2.2.1 hb | exact Loc.alloc hHeld.2.2.2.1 _ | exact cell_b hb hHeld.2.2.2.1 | exact cell_alloc' hHeld.2.2.2.1 _ | exact below_step hHeld.2.2.2.1 hb | exact below_alloc hHeld.2.2.2.1 _ | exact Loc.below hHeld.2.2.2 hb | exact Loc.alloc hHeld.2.2.2 _ | exact cell_b hb hHeld.2.2.2 | exact cell_alloc' hHeld.2.2.2 _ | exact below_step hHeld.2.2.2 hb | exact below_alloc hHeld.2.2.2 _ | exact Loc.below hHeld.2.2.2.2.1 hb | exact Loc.alloc hHeld.2.2.2.2.1 _ | exact cell_b hb hHeld.2.2.2.2.1 | exact cell_alloc' hHeld.2.2.2.2.1 _ | exact below_step hHeld.2.2.2.2.1 hb | exact below_alloc hHeld.2.2.2.2.1 _ | exact Loc.below hHeld.2.2.2.2 hb | exact Loc.alloc hHeld.2.2.2.2 _ | exact cell_b hb hHeld.2.2.2.2 | exact cell_alloc' hHeld.2.2.2.2 _ | exact below_step hHeld.2.2.2.2 hb | exact below_alloc hHeld.2.2.2.2 _ | exact Loc.below hHeld.2.2.2.2.2.1 hb | exact Loc.alloc hHeld.2.2.2.2.2.1 _ | exact cell_b hb hHeld.2.2.2.2.2.1 | exact cell_alloc' hHeld.2.2.2.2.2.1 _ | exact below_step hHeld.2.2.2.2.2.1 hb | exact below_alloc hHeld.2.2.2.2.2.1 _ | exact Loc.below hHeld.2.2.2.2.2 hb | exact Loc.alloc hHeld.2.2.2.2.2 _ | exact cell_b hb hHeld.2.2.2.2.2 | exact cell_alloc' hHeld.2.2.2.2.2 _ | exact below_step hHeld.2.2.2.2.2 hb | exact below_alloc hHeld.2.2.2.2.2 _ | exact Loc.below hHeld.2.2.2.2.2.2.1 hb | exact Loc.alloc hHeld.2.2.2.2.2.2.1 _ | exact cell_b hb hHeld.2.2.2.2.2.2.1 | exact cell_alloc' hHeld.2.2.2.2.2.2.1 _ | exact below_step hHeld.2.2.2.2.2.2.1 hb | exact below_alloc hHeld.2.2.2.2.2.2.1 _ | exact Loc.below hHeld.2.2.2.2.2.2 hb | exact Loc.alloc hHeld.2.2.2.2.2.2 _ | exact cell_b hb hHeld.2.2.2.2.2.2 | exact cell_alloc' hHeld.2.2.2.2.2.2 _ | exact below_step hHeld.2.2.2.2.2.2 hb | exact below_alloc hHeld.2.2.2.2.2.2 _ | exact Loc.below hHeld.2.2.2.2.2.2.2.1 hb | exact Loc.alloc hHeld.2.2.2.2.2.2.2.1 _ | exact cell_b hb hHeld.2.2.2.2.2.2.2.1 | exact cell_alloc' hHeld.2.2.2.2.2.2.2.1 _ | exact below_step hHeld.2.2.2.2.2.2.2.1 hb | exact below_alloc hHeld.2.2.2.2.2.2.2.1 _ | exact Loc.below hHeld.2.2.2.2.2.2.2 hb | exact Loc.alloc hHeld.2.2.2.2.2.2.2 _ | exact cell_b hb hHeld.2.2.2.2.2.2.2 | exact cell_alloc' hHeld.2.2.2.2.2.2.2 _ | exact below_step hHeld.2.2.2.2.2.2.2 hb | exact below_alloc hHeld.2.2.2.2.2.2.2 _ | exact Loc.below hHeld.2.2.2.2.2.2.2.2.1 hb | exact Loc.alloc hHeld.2.2.2.2.2.2.2.2.1 _ | exact cell_b hb hHeld.2.2.2.2.2.2.2.2.1 | exact cell_alloc' hHeld.2.2.2.2.2.2.2.2.1 _ | exact below_step hHeld.2.2.2.2.2.2.2.2.1 hb | exact below_alloc hHeld.2.2.2.2.2.2.2.2.1 _ | exact Loc.below hHeld.2.2.2.2.2.2.2.2 hb | exact Loc.alloc hHeld.2.2.2.2.2.2.2.2 _ | exact cell_b hb hHeld.2.2.2.2.2.2.2.2 | exact cell_alloc' hHeld.2.2.2.2.2.2.2.2 _ | exact below_step hHeld.2.2.2.2.2.2.2.2 hb | exact below_alloc hHeld.2.2.2.2.2.2.2.2 _))) (fun hHeld => ?_)
      clear hK K
      (try simp only [Act.put, List.setIfInBounds_toArray, List.set_cons_zero, List.set_cons_succ])
      clear hb
      refine zReady (rs := [4]) (by kernel_rfl) (by simp) ?_
      refine zOne (by decide) rfl (fun K hK => ?_) zNil
      go_simp
      refine hK.out _ _ (by ((repeat' apply And.intro) <;> (first | exact Loc.below hHeld.1 hb | exact Loc.alloc hHeld.1 _ | exact cell_b hb hHeld.1 | exact cell_alloc' hHeld.1 _ | exact below_step hHeld.1 hb | exact below_alloc hHeld.1 _ | exact Loc.below hHeld hb | exact Loc.alloc hHeld _ | exact cell_b hb hHeld | exact cell_alloc' hHeld _ | exact below_step hHeld hb | exact below_alloc hHeld _ | exact Loc.below hHeld.2.1 hb | exact Loc.alloc hHeld.2.1 _ | exact cell_b hb hHeld.2.1 | exact cell_alloc' hHeld.2.1 _ | exact below_step hHeld.2.1 hb | exact below_alloc hHeld.2.1 _ | exact Loc.below hHeld.2 hb | exact Loc.alloc hHeld.2 _ | exact cell_b hb hHeld.2 | exact cell_alloc' hHeld.2 _ | exact below_step hHeld.2 hb | exact below_alloc hHeld.2 _ | exact Loc.below hHeld.2.2.1 hb | exact Loc.alloc hHeld.2.2.1 _ | exact cell_b hb hHeld.2.2.1 | exact cell_alloc' hHeld.2.2.1 _ | exact below_step hHeld.2.2.1 hb | exact below_alloc hHeld.2.2.1 _ | exact Loc.below hHeld.2.2 hb | exact Loc.alloc hHeld.2.2 _ | exact cell_b hb hHeld.2.2 | exact cell_alloc' hHeld.2.2 _ | exact below_step hHeld.2.2 hb | exact below_alloc hHeld.2.2 _ | exact Loc.below hHeld.2.2.2.1 hb | exact Loc.alloc hHeld.2.2.2.1 _ | exact cell_b hb hHeld.2.2.2.1 | exact cell_alloc' hHeld.2.2.2.1 _ | exact below_step hHeld.2.2.2.1 hb | exact below_alloc hHeld.2.2.2.1 _ | exact Loc.below hHeld.2.2.2 hb | exact Loc.alloc hHeld.2.2.2 _ | exact cell_b hb hHeld.2.2.2 | exact cell_alloc' hHeld.2.2.2 _ | exact below_step hHeld.2.2.2 hb | exact below_alloc hHeld.2.2.2 _ | exact Loc.below hHeld.2.2.2.2.1 hb | exact Loc.alloc hHeld.2.2.2.2.1 _ | exact cell_b hb hHeld.2.2.2.2.1 | exact cell_alloc' hHeld.2.2.2.2.1 _ | exact below_step hHeld.2.2.2.2.1 hb | exact below_alloc hHeld.2.2.2.2.1 _ | exact Loc.below hHeld.2.2.2.2 hb | exact Loc.alloc hHeld.2.2.2.2 _ | exact cell_b hb hHeld.2.2.2.2 | exact cell_alloc' hHeld.2.2.2.2 _ | exact below_step hHeld.2.2.2.2 hb | exact below_alloc hHeld.2.2.2.2 _ | exact Loc.below hHeld.2.2.2.2.2.1 hb | exact Loc.alloc hHeld.2.2.2.2.2.1 _ | exact cell_b hb hHeld.2.2.2.2.2.1 | exact cell_alloc' hHeld.2.2.2.2.2.1 _ | exact below_step hHeld.2.2.2.2.2.1 hb | exact below_alloc hHeld.2.2.2.2.2.1 _ | exact Loc.below hHeld.2.2.2.2.2 hb | exact Loc.alloc hHeld.2.2.2.2.2 _ | exact cell_b hb hHeld.2.2.2.2.2 | exact cell_alloc' hHeld.2.2.2.2.2 _ | exact below_step hHeld.2.2.2.2.2 hb | exact below_alloc hHeld.2.2.2.2.2 _ | exact Loc.below hHeld.2.2.2.2.2.2.1 hb | exact Loc.alloc hHeld.2.2.2.2.2.2.1 _ | exact cell_b hb hHeld.2.2.2.2.2.2.1 | exact cell_alloc' hHeld.2.2.2.2.2.2.1 _ | exact below_step hHeld.2.2.2.2.2.2.1 hb | exact below_alloc hHeld.2.2.2.2.2.2.1 _ | exact Loc.below hHeld.2.2.2.2.2.2 hb | exact Loc.alloc hHeld.2.2.2.2.2.2 _ | exact cell_b hb hHeld.2.2.2.2.2.2 | exact cell_alloc' hHeld.2.2.2.2.2.2 _ | exact below_step hHeld.2.2.2.2.2.2 hb | exact below_alloc hHeld.2.2.2.2.2.2 _ | exact Loc.below hHeld.2.2.2.2.2.2.2.1 hb | exact Loc.alloc hHeld.2.2.2.2.2.2.2.1 _ | exact cell_b hb hHeld.2.2.2.2.2.2.2.1 | exact cell_alloc' hHeld.2.2.2.2.2.2.2.1 _ | exact below_step hHeld.2.2.2.2.2.2.2.1 hb | exact below_alloc hHeld.2.2.2.2.2.2.2.1 _ | exact Loc.below hHeld.2.2.2.2.2.2.2 hb | exact Loc.alloc hHeld.2.2.2.2.2.2.2 _ | exact cell_b hb hHeld.2.2.2.2.2.2.2 | exact cell_alloc' hHeld.2.2.2.2.2.2.2 _ | exact below_step hHeld.2.2.2.2.2.2.2 hb | exact below_alloc hHeld.2.2.2.2.2.2.2 _ | exact Loc.below hHeld.2.2.2.2.2.2.2.2.1 hb | exact Loc.alloc hHeld.2.2.2.2.2.2.2.2.1 _ | exact cell_b hb hHeld.2.2.2.2.2.2.2.2.1 | exact cell_alloc' hHeld.2.2.2.2.2.2.2.2.1 _ | exact below_step hHeld.2.2.2.2.2.2.2.2.1 hb | exact below_alloc hHeld.2.2.2.2.2.2.2.2.1 _ | exact Loc.below hHeld.2.2.2.2.2.2.2.2 hb | exact Loc.alloc hHeld.2.2.2.2.2.2.2.2 _ | exact cell_b hb hHeld.2.2.2.2.2.2.2.2 | exact cell_alloc' hHeld.2.2.2.2.2.2.2.2 _ | exact below_step hHeld.2.2.2.2.2.2.2.2 hb | exact below_alloc hHeld.2.2.2.2.2.2.2.2 _))) (fun hHeld => ?_)
      clear hK K
      (try simp only [Act.put, List.setIfInBounds_toArray, List.set_cons_zero, List.set_cons_succ])
      refine zReady (rs := [5]) (by kernel_rfl) (by simp) ?_
      refine zOne (by decide) rfl (fun K hK => ?_) zNil
      obtain ⟨xs, hown, FS⟩ := owRow_snoc ow_mail (w0 := wz) (w := w1.alloc (.cells #[.int .i64 m.g, .int .i64 m.u, .slice Ax m.fl.length cx, .string m.tx] 58)) (x := m) (cs := [.int .i64 m.g, .int .i64 m.u, .slice Ax m.fl.length cx, .string m.tx]) (Dx := Dx) (owRow_below ow_mail HO.out (below_alloc HB1.out _)) ⟨_, rfl, owRow_alloc ow_reg HX.out _⟩ ((New.app HN.out HS.out (HNX.out.from (w0 := wr) (below_drew (below_alloc (Below.refl _ wr) _)).size) HB1.out.size).alloc _) (by have := HS.out; have := HB1.out.size; simp; omega); refine step_append_lies _ (by rfl) (.tmp 17) (.tmp 20) 30 (by rfl) 0 58 i0 (.agg #[.int .i64 0, .int .i64 0, .slice none 0 0, .string ⟨#[]⟩]) 4 56 Try.underlying30 hi0 hz0 hz1 hz2 (by decide) (by decide) (.slice Av nv cv) (b.ml.take i).length xs (by rfl) hown ⟨w1.heap.size, 0, none⟩ 1 1 [.int .i64 m.g, .int .i64 m.u, .slice Ax m.fl.length cx, .string m.tx] (by rfl) rfl (World.news_of_block (heap_alloc_new w1 _)) (by simp [Value.oneCell']) (by decide) (by unfold maxLen; rw [List.length_take]; omega) (by rw [List.length_take]; omega) (Nat.zero_le _) (w1.heap.size + 1) (by simp) ?_; intro g cap w2 hown2 hgrow hat hlt2; obtain ⟨D2, hk1, hk2⟩ := FS _ _ hown2 hgrow (hat.imp (fun h => h.symm) (fun h => by rw [h]; simp [Value.ownBlock])); have hrow : ∀ x, (Value.slice Av nv cv).ownBlock = some x → w.heap.size + 3 ≤ x ∧ x < wr.heap.size := (fun x hx => by have h1 := HN.out.2 x (own_in HO.out hx); have h2 := HZ.out; omega); have n3 : some (w.heap.size + 1 + 1) ≠ (Value.slice Av nv cv).ownBlock := (fun e => by have := hrow _ e.symm; omega); have n5 : some wr.heap.size ≠ (Value.slice Av nv cv).ownBlock := (fun e => by have := hrow _ e.symm; omega)
      refine hK.out _ _ (by exact ⟨hHeld.1.grown hgrow n3, hHeld.2.grown hgrow n5⟩) (fun hHeld => ?_)
      clear hK K
      (try simp only [Act.put, List.setIfInBounds_toArray, List.set_cons_zero, List.set_cons_succ])
      have HRW := Aside.mk hrow; have HGR := Aside.mk hgrow; have HK1 := Aside.mk hk1; have HK2 := Aside.mk hk2; have L3b := Aside.mk hHeld.1; clear hown2 hgrow hat hown FS hk1 hk2 hrow n3 n5 hlt2; have l3b := L3b.out.cells; have f3b := L3b.out.free; have k3b := L3b.out.lt
      refine zT 6 22 hHeld ?_
      refine zReady (rs := [7]) (by kernel_rfl) (by simp) ?_
      refine zLast rfl (fun K hK => ?_) zNil
      go_simp
      refine hK.out _ _ ?_
      clear hK K
      (try simp only [Act.put, List.setIfInBounds_toArray, List.set_cons_zero, List.set_cons_succ])
      refine zDone (by kernel_rfl) ?_ _
      clear hHeld
      have hti : (b.ml.take i).length = i := by rw [List.length_take]; omega
      have n1 : some w.heap.size ≠ (Value.slice Av nv cv).ownBlock := fun e => by have := HRW.out _ e.symm; omega
      have n2 : some (w.heap.size + 1) ≠ (Value.slice Av nv cv).ownBlock := fun e => by have := HRW.out _ e.symm; omega
      have L1' := Aside.mk ((((L1.out.below HB1.out).alloc _).grown HGR.out n1).set (p := ⟨w.heap.size + 1 + 1, 5, none⟩) (by show _ ≠ w.heap.size + 1 + 1; omega) (.slice (some ⟨g, 0, none⟩) (i + 1) cap))
      have L2' := Aside.mk ((((L2.out.below HB1.out).alloc _).grown HGR.out n2).set (p := ⟨w.heap.size + 1 + 1, 5, none⟩) (by show _ ≠ w.heap.size + 1 + 1; omega) (.slice (some ⟨g, 0, none⟩) (i + 1) cap))
      have L3' := Aside.mk (L3b.out.put 5 (.slice (some ⟨g, 0, none⟩) (i + 1) cap))
      have HO' := Aside.mk (owRow_set ow_mail (show owMails _ _ (.slice (some ⟨g, 0, none⟩) (i + 1) cap) _ from hti ▸ HK1.out) (p := ⟨w.heap.size + 1 + 1, 5, none⟩) (fun hx => by have := (HK2.out.2 _ hx).1; have h2 := HZ.out; rw [h2] at this; have h3 : w.heap.size + 3 ≤ w.heap.size + 1 + 1 := this; omega) (.slice (some ⟨g, 0, none⟩) (i + 1) cap))
      have HN' := Aside.mk (HK2.out.set ⟨w.heap.size + 1 + 1, 5, none⟩ (.slice (some ⟨g, 0, none⟩) (i + 1) cap))
      have HB' := Aside.mk (((below_step HB.out (below_alloc HB1.out _)).grown HGR.out (by have := HB.out.size; have := HB1.out.size; simp; omega) (fun x hx => by have := HRW.out x hx; omega)).setCell (p := ⟨w.heap.size + 1 + 1, 5, none⟩) (by simp; omega) (.slice (some ⟨g, 0, none⟩) (i + 1) cap))
      go_wp2
      go_roundw
      case rel => exact ⟨i + 1, _, _, _, D2, by omega, by go_num, L1', L2', L3', ⟨by rw [HT.out]; exact HO'.out⟩, HN', HB'⟩
      case measure => simp [intOf]; omega
    · have hz : i = b.ml.length := by omega
      have hge : ¬ ((i : Int) < (b.ml.length : Int)) := by omega
      have HO1 : Aside (owMails wr D (.slice Av nv cv) b.ml) := ⟨by have := HO.out; rw [hz, List.take_length] at this; exact this⟩
      clear HO hlt hz
      go_wp2_with (fail)
      refine (copyInts_calls _ _ b.go (rdInts_mov HB.out HG.out) HL.out.2).mono ?_
      rintro e w5 ⟨gv, Dg, rfl, hog, hng, hb⟩
      obtain ⟨Ag, cg, rfl⟩ := cell_own ow_int hog
      have L2b := Aside.mk (L2.out.below hb)
      have L3b := Aside.mk (L3.out.below hb)
      have HOm := Aside.mk (owRow_below ow_mail HO1.out hb)
      have HOg := Aside.mk hog
      have HNa := Aside.mk (HN.out.app (by have := HZ.out; omega) hng hb.size)
      have HN0 := Aside.mk (HNa.out.from (w0 := w) (by have := HZ.out; omega))
      replace HB := Aside.mk (below_step HB.out hb)
      have HDm : Aside (∀ x ∈ D, w.heap.size + 1 + 1 + 1 ≤ x) := ⟨fun x hx => by have := (HN.out.2 x hx).1; have := HZ.out; omega⟩
      have HDg : Aside (∀ x ∈ Dg, w.heap.size + 1 + 1 + 1 ≤ x) := ⟨fun x hx => by have := (hng.2 x hx).1; omega⟩
      clear l1 l3 k3 L1 L2 L3 HO1 HN hog hng hb HS
      have l2 := L2b.out.cells
      have l3 := L3b.out.cells
      have q2 := L2b.out.lt
      have q3 := L3b.out.lt
      have f2 := L2b.out.free
      have f3 := L3b.out.free
      go_wp2_with (fail)
      refine bodyPost_ret (v := .agg #[.int .i64 b.g, .string b.nm, .int .i64 b.t, .int .i64 b.b, .int .i64 b.nx, .slice Av nv cv, .slice Ag b.go.length cg]) (by simp [results, go_sem, l2, l3, q2, q3]) rfl ⟨_, _, D ++ Dg, rfl, ⟨_, _, D, Dg, rfl, rfl, ?_, ?_⟩, ?_, ?_⟩
      · (repeat (first | (with_reducible exact HOm.out) | (with_reducible refine owRow_far ow_mail (w.heap.size + 1 + 1 + 1) ?_ HDm.out (by first | omega | (dsimp only; omega) | (simp; done) | (simp; omega)) _) | (with_reducible refine owRow_alloc ow_mail ?_ _)))
      · (repeat (first | (with_reducible exact HOg.out) | (with_reducible refine owRow_far ow_int (w.heap.size + 1 + 1 + 1) ?_ HDg.out (by first | omega | (dsimp only; omega) | (simp; done) | (simp; omega)) _) | (with_reducible refine owRow_alloc ow_int ?_ _)))
      · (repeat (first | (with_reducible exact HN0.out) | (with_reducible refine New.set ?_ _ _) | (with_reducible refine New.alloc ?_ _) | (with_reducible refine New.drew ?_)))
      · (repeat (first | (with_reducible exact HB.out) | (with_reducible exact Below.refl _ _) | (with_reducible refine below_set ?_ (by first | omega | (dsimp only; omega) | (simp; done) | (simp; omega)) _) | (with_reducible refine below_alloc ?_ _) | (with_reducible refine below_drewN ?_ _) | (with_reducible refine below_drew ?_)))
end Go.Proofs.Ytjfjpabfkembcaa.H
