/- Copies of lists of boxes: the walks. -/
import Derived.Test.YtjfjpabfkembcaaHCopyBox
import Derived.Test.YtjfjpabfkembcaaHLoc
namespace Go.Proofs.Ytjfjpabfkembcaa.H
open Go.RowKit
set_option linter.unusedVariables false
set_option linter.unusedSimpArgs false
set_option maxHeartbeats 2000000 in
set_option maxRecDepth 100000 in
theorem copyBoxes_calls (w : World) (v : Value) (l : List Box) (h : rdBoxes w v l) (hl : l.length ≤ 4000000) (hs : ∀ m ∈ l, smBox m) :
    Calls Try.prog 158 #[v] w (RetRow owBoxes l w) := by
  obtain ⟨A, c, rfl, _, hm⟩ := rd_len h
  have HR := Aside.mk h
  have HL := Aside.mk hs
  clear h hs
  obtain ⟨i0, hi0, hz0, hz1, hz2⟩ := info_parts (show (Try.prog.info? 32).map (fun i => (i.zero, i.size, i.bytes)) = some (some (.agg #[.int .i64 0, .string ⟨#[]⟩, .int .i64 0, .int .i64 0, .int .i64 0, .slice none 0 0, .slice none 0 0]), 7, 96) by kernel_rfl)
  go_enter Try.func158, Try.ntmps158
  go_wp2
  go_loopw [3, 9] (fun v3 v9 wr => ∃ (i : Nat) (Av : Option Addr) (nv cv : Nat) (D : List Nat), i ≤ l.length ∧ v9 = .int .i64 i ∧ v3 = .slice Av nv cv ∧ Aside (owBoxes wr D (.slice Av nv cv) (l.take i)) ∧ Aside (New w wr D) ∧ Aside (Below w.heap.size w wr)) (fun _ v9 _ => l.length - (intOf v9).toNat)
  case atStart => exact ⟨0, _, _, _, [w.heap.size], Nat.zero_le _, rfl, rfl, ⟨⟨[], [], own_lit0 _ _ _ _ rfl, by simp [Value.ownBlock], rfl, rfl⟩⟩, ⟨by simp, by simp⟩, ⟨by (repeat (first | (with_reducible exact HB.out) | (with_reducible exact Below.refl _ _) | (with_reducible refine below_set ?_ (by first | omega | (dsimp only; omega) | (simp; done) | (simp; omega)) _) | (with_reducible refine below_alloc ?_ _) | (with_reducible refine below_drewN ?_ _) | (with_reducible refine below_drew ?_)))⟩⟩
  case round =>
    obtain ⟨i, Av, nv, cv, D, hi, rfl, rfl, HO, HN, HB⟩ := hrel
    by_cases hlt : i < l.length
    · obtain ⟨ad, mv, gv, hA, x0, x1, x2, x3, x4, x5, x6, hf, hg⟩ := rdBoxes_at (rdBoxes_mov HB.out HR.out) i hlt
      subst hA
      have hlm := HL.out l[i] (List.getElem_mem hlt)
      have HT : Aside (l.take (i + 1) = l.take i ++ [l[i]]) := ⟨List.take_succ_eq_append_getElem hlt⟩
      generalize l[i] = m at x0 x1 x2 x3 x4 x5 x6 hf hg hlm HT
      obtain ⟨Af, cf, rfl, _, _⟩ := rd_len hf
      obtain ⟨Ag, cg, rfl, _, _⟩ := rd_len hg
      have HF := Aside.mk hf
      have HG := Aside.mk hg
      have HM := Aside.mk hlm
      clear hf hg hlm
      go_wp2_with (fail)
      refine (copyBox_calls _ _ _ m (rdMails_mov (below_alloc (Below.refl _ _) _) HF.out) (rdInts_mov (below_alloc (Below.refl _ _) _) HG.out) HM.out).mono ?_
      rintro e w1 ⟨mx, gx, Dx, rfl, hox, hnx, hb⟩
      obtain ⟨A2, c2, A3, c3, _, _, rfl, rfl, _, _, _⟩ := box_parts hox
      have HB1 := Aside.mk (below_step (w0 := wr) (below_alloc (Below.refl _ _) _) hb)
      have hsz := HB1.out.size
      obtain ⟨xs, hown, FS⟩ := owRow_snoc ow_box (w0 := w) (w := w1.alloc (.cells #[.int .i64 m.g, .string m.nm, .int .i64 m.t, .int .i64 m.b, .int .i64 m.nx, .slice A2 m.ml.length c2, .slice A3 m.go.length c3] 32)) (x := m) (cs := [.int .i64 m.g, .string m.nm, .int .i64 m.t, .int .i64 m.b, .int .i64 m.nx, .slice A2 m.ml.length c2, .slice A3 m.go.length c3]) (Dx := Dx) (owRow_below ow_box HO.out (below_alloc HB1.out _)) (ow_below ow_box hox (below_alloc (Below.refl _ _) _)) ((New.app HN.out HB.out.size (hnx.from (w0 := wr) (by simp)) HB1.out.size).alloc _) (by have := HB.out.size; simp; omega)
      clear hox hnx hb
      have HFS := Aside.mk FS
      clear FS
      go_wp2_with (refine wpList_append_lies _ (by rfl) (.tmp 13) (.tmp 16) 43 (by rfl) 0 32 i0 (.agg #[.int .i64 0, .string ⟨#[]⟩, .int .i64 0, .int .i64 0, .int .i64 0, .slice none 0 0, .slice none 0 0]) 7 96 Try.underlying43 hi0 hz0 hz1 hz2 (by decide) (by decide) (.slice Av nv cv) (l.take i).length xs (by rfl) hown ⟨w1.heap.size, 0, none⟩ 1 1 [.int .i64 m.g, .string m.nm, .int .i64 m.t, .int .i64 m.b, .int .i64 m.nx, .slice A2 m.ml.length c2, .slice A3 m.go.length c3] (by rfl) rfl (World.news_of_block (heap_alloc_new w1 _)) (by simp [Value.oneCell']) (by decide) (by unfold maxLen; rw [List.length_take]; omega) (by rw [List.length_take]; omega) (Nat.zero_le _) (w1.heap.size + 1) (by simp) ?_; intro g cap w2 hown2 hgrow hat hlt2; have HX1 := Aside.mk hown2; have HX2 := Aside.mk hgrow; have HX3 := Aside.mk hat; clear hown2 hgrow hat hown)
      obtain ⟨D2, hk1, hk2⟩ := HFS.out _ _ HX1.out HX2.out (HX3.out.imp (fun h => h.symm) (fun h => by rw [h]; simp [Value.ownBlock]))
      have HK1 := Aside.mk hk1
      have HK2 := Aside.mk hk2
      have HB' := Aside.mk ((below_step HB.out (below_alloc HB1.out _)).grown HX2.out (by have := HB.out.size; simp; omega) (fun x hx => (HN.out.2 x (own_in HO.out hx)).1))
      clear hk1 hk2
      go_roundw
      case rel => exact ⟨i + 1, _, _, _, D2, by omega, by go_num, rfl, ⟨by have h := HK1.out; rw [List.length_take, Nat.min_eq_left hi] at h; rw [HT.out]; exact h⟩, HK2, HB'⟩
      case measure => simp [intOf]; omega
    · have hz : i = l.length := by omega
      have hge : ¬ ((i : Int) < (l.length : Int)) := by omega
      have HO1 : Aside (owBoxes wr D (.slice Av nv cv) l) := ⟨by have := HO.out; rw [hz, List.take_length] at this; exact this⟩
      clear HO hlt hz
      go_wp2
      go_ret
      exact ⟨_, D, rfl, HO1.out, HN.out, HB.out⟩
end Go.Proofs.Ytjfjpabfkembcaa.H
