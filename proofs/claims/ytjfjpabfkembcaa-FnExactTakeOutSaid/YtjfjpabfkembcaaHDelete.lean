/- slices.Delete of one mail: the walk. -/
import Derived.Test.YtjfjpabfkembcaaHCut
import Derived.Test.YtjfjpabfkembcaaHRegY
import Derived.Deep.RegionLaw
namespace Go.Proofs.Ytjfjpabfkembcaa.H
open Go.RowKit
set_option linter.unusedVariables false
set_option linter.unusedSimpArgs false
theorem sets_keepD (g : Nat) {D : List Nat} (hg : g ∈ D) : ∀ (cs : List Value) (o : Nat) (w : World), Keep D w (sets w g o cs)
  | [], _, _ => Keep.refl _ _
  | u :: us, o, w => ((Keep.refl D w).set (p := ⟨g, o, none⟩) hg u).trans (sets_keepD g hg us (o + 1) _)
/-- 'clear(s)', s a slice of one mail. -/
theorem clear_mail (w : World) (g o c : Nat) (ty : TypeId) (hc : ∀ j, j < 4 → (w.cell? ⟨g, o + j, none⟩).isSome = true) (hf : ∀ j, j < 4 → w.frozen? ⟨g, o + j, none⟩ = false) :
    (Builtin.clear_ #[30] ty #[.slice (some ⟨g, o, none⟩) 1 c]).run Try.prog w = .ok (.tuple #[]) (w.setCells g o [.int .i64 0, .int .i64 0, .slice none 0 0, .string ⟨#[]⟩]) := by
  have hst := run_storeCells_cells (P := Try.prog) g o [.int .i64 0, .int .i64 0, .slice none 0 0, .string ⟨#[]⟩] 0 w (by simpa using hc) (by simpa using hf) (by intro v hv'; simp at hv'; rcases hv' with rfl | rfl | rfl <;> rfl)
  simp only [Nat.add_zero] at hst
  have hz : (Builtin.zeroCells #[Value.int .i64 0, .int .i64 0, .slice none 0 0, .string ⟨#[]⟩] 1).toList = [.int .i64 0, .int .i64 0, .slice none 0 0, .string ⟨#[]⟩] := by
    simp [Builtin.zeroCells]
    rfl
  simp [Builtin.clear_, run_underlying Try.underlying30, Try.zeroValue58, Value.cells, hz, hst]
set_option maxHeartbeats 2000000 in
set_option maxRecDepth 100000 in
theorem delete_calls (w : World) (D : List Nat) (v : Value) (l : List Mail) (i : Nat) (h : owMails w D v l) (hN : D.Nodup) (hi : i < l.length) :
    Calls Try.prog 77 #[v, .int .i64 i, .int .i64 ((i : Int) + 1)] w fun e w' => ∃ g c D', v = .slice (some ⟨g, 0, none⟩) l.length c ∧ e = .returned (.slice (some ⟨g, 0, none⟩) (l.length - 1) c) ∧
      owMails w' D' (.slice (some ⟨g, 0, none⟩) (l.length - 1) c) (l.eraseIdx i) ∧ D'.Nodup ∧ (∀ b ∈ D', b ∈ D) ∧ Keep D w w' := by
  obtain ⟨i0, hi0, hz0, hz1, hz2⟩ := info_parts (show (Try.prog.info? 58).map (fun i => (i.zero, i.size, i.bytes)) = some (some (.agg #[.int .i64 0, .int .i64 0, .slice none 0 0, .string ⟨#[]⟩]), 4, 56) by kernel_rfl)
  obtain ⟨g, c, xs, rfl, hgD, hlc, hcm, hxl, hone, hcell, hfr, ⟨cur, hh⟩, F⟩ := owRow_cut ow_mail h hN i hi
  have hm : c ≤ 9223372036854775807 := hcm
  obtain ⟨n, hn⟩ : ∃ n, n = l.length := ⟨_, rfl⟩
  rw [← hn] at hi hlc hxl F
  rw [← hn]
  have HNL := Aside.mk hn
  clear hn
  obtain ⟨news, hnews⟩ : ∃ news, news = xs.drop ((i + 1) * 4) := ⟨_, rfl⟩
  have hlen : news.length = n * 4 - (i + 1) * 4 := by rw [hnews, List.length_drop, hxl]
  obtain ⟨A, hA, hsrc⟩ : ∃ A : Addr, (if c = i + 1 then some (⟨g, 0, none⟩ : Addr) else some ⟨g, (i + 1) * 4, none⟩) = some A ∧ Hid (∀ t u, news[t]? = some u → w.drew.cell? (A.add t) = some u) := by
    by_cases hc1 : c = i + 1
    · refine ⟨⟨g, 0, none⟩, by simp [hc1], fun t u hu => ?_⟩
      have := (List.getElem?_eq_some_iff.1 hu).1
      omega
    · refine ⟨⟨g, (i + 1) * 4, none⟩, by simp [hc1], fun t u hu => ?_⟩
      rw [hnews, List.getElem?_drop] at hu
      rw [Addr.add_lit]
      exact hcell _ u hu
  have s1 : Hid (news.length = (n - (i + 1)) * 4) := by show _ = _; omega
  have s2 : Hid (∀ u ∈ news, u.oneCell' = true) := fun u hu => hone u (List.mem_of_mem_drop (hnews ▸ hu))
  have s3 : Hid (∀ t, t < news.length → (w.drew.cell? ⟨g, 0 + i * 4 + t, none⟩).isSome = true ∧ w.drew.frozen? ⟨g, 0 + i * 4 + t, none⟩ = false) := by
    intro t ht
    have ht2 : 0 + i * 4 + t < xs.length := by omega
    refine ⟨?_, hfr _⟩
    show (w.cell? _).isSome = true
    rw [hcell _ _ (List.getElem?_eq_getElem ht2)]
    rfl
  have hp0 : (0 : Int) ≤ (i : Int) + 1 := by omega
  have hp1 : (i : Int) + 1 ≤ (n : Int) := by omega
  have hp2 : ((i : Int) + 1).toNat = i + 1 := by omega
  have hp3 : (i : Int) ≤ (i : Int) + 1 := by omega
  have hp4 : ¬ ((i : Int) = (i : Int) + 1) := by omega
  have hp5 : (n : Int) ≤ (c : Int) := by omega
  have hic : i ≤ c := by omega
  obtain ⟨W1, hW1⟩ : ∃ W1, W1 = w.drew.setCells g (0 + i * 4) news := ⟨_, rfl⟩
  have hcl : ∀ ty, (Builtin.clear_ #[30] ty #[.slice (some ⟨g, (n - 1) * 4, none⟩) 1 (c - (n - 1))]).run Try.prog W1 = .ok (.tuple #[]) (W1.setCells g ((n - 1) * 4) [.int .i64 0, .int .i64 0, .slice none 0 0, .string ⟨#[]⟩]) := fun ty => by
    refine clear_mail W1 g _ _ ty (fun j hj => ?_) (fun j hj => ?_)
    · rw [hW1, setCells_sets]
      have hq : ∀ q, q < xs.length → ∃ u, w.cell? ⟨g, q, none⟩ = some u := fun q hq => ⟨_, hcell _ _ (List.getElem?_eq_getElem hq)⟩
      obtain ⟨c1, c2, e', s1, s2, s3, _⟩ := sets_seg g 0 (n * 4) news (0 + i * 4) w.drew w.drew (Seg.refl hh) (Nat.zero_le _) (by omega)
      obtain ⟨u, hu⟩ := hq ((n - 1) * 4 + j) (by omega)
      rw [cell_of_row w g _ c1 e' (0, 0) s1] at hu
      have := (Array.getElem?_eq_some_iff.1 hu).1
      rw [cell_of_row _ g _ c2 e' (0, 0) s2, Array.getElem?_eq_getElem (by omega)]
      rfl
    · rw [hW1, World.frozen?_setCells]
      exact hfr _
  have hk1 : i + (n - (i + 1)) = n - 1 := by omega
  have hk2 : n - (n - 1) = 1 := by omega
  have HW1 := Aside.mk hW1
  have HF := Aside.mk F
  have HH := Aside.mk hh
  have HC := Aside.mk hcell
  have HX := Aside.mk (And.intro hxl (And.intro hnews hlen))
  clear F hcell hfr hone hh hW1 hxl hnews hlen h
  go_enter Try.func77, Try.ntmps77
  go_wp2_with fail
  go_region_law (refine step_append_room rfl (.tmp 22) (.tmp 25) 30 rfl 58 i0 4 Try.underlying30 hi0 hz1 g 0 i c (by simp [Act.eval, Act.put]) A (n - (i + 1)) (c - (i + 1)) news (by simp [Act.eval, Act.put]) s1.out hsrc.out s2.out (by omega) s3.out ?_; rw [← HW1.out])
  go_wp2
  go_ret
  obtain ⟨k1, k2⟩ := cut_world (w := w.drew) (zs := [.int .i64 0, .int .i64 0, .slice none 0 0, .string ⟨#[]⟩]) hi HX.out.1 rfl HH.out HC.out
  rw [HW1.out, setCells_sets, setCells_sets, Nat.zero_add, HX.out.2.1]
  obtain ⟨D', d1, d2, d3⟩ := HF.out _ (fun b _ hb => by rw [sets_far g _ _ _ b hb, sets_far g _ _ _ b hb]; rfl) k1 k2
  refine ⟨g, c, D', rfl, rfl, d1, d2, d3, ?_⟩
  exact ((Keep.of_below (D := D) (below_drew (Below.refl _ w))).trans (sets_keepD g hgD _ (i * 4) w.drew)).trans (sets_keepD g hgD _ ((n - 1) * 4) _)
end Go.Proofs.Ytjfjpabfkembcaa.H
