/- A row with one element cut out of it. No program in it. The elements of a row but one; several elements appended at a step of a region that draws. slices.Delete of one mail: the walk. -/
import Derived.Test.YtjfjpabfkembcaaHOwn3
import Derived.Laws.IdiomCopy
import Derived.Test.YtjfjpabfkembcaaHSnoc
import Derived.Maps.AppendAt
import Derived.Test.YtjfjpabfkembcaaHRegY
import Derived.Deep.RegionLaw
namespace Go.Proofs.Ytjfjpabfkembcaa.H
open Go.RowKit
set_option linter.unusedVariables false
set_option linter.unusedSimpArgs false
/-! A row with one element cut out of it. No program in it. -/
theorem setCells_sets (g : Nat) : ∀ (vs : List Value) (o : Nat) (w : World), w.setCells g o vs = sets w g o vs
  | [], _, _ => rfl
  | u :: us, o, w => setCells_sets g us (o + 1) _
theorem owRow_cut {α : Type} {e sz : Nat} {R : World → List Nat → List Value → α → Prop} {K : World → List Value → α → Prop} (o : Ow sz R K) {w : World} {D : List Nat} {v : Value} {l : List α} (h : owRow e sz R w D v l) (hN : D.Nodup)
    (i : Nat) (hi : i < l.length) :
    ∃ (g c : Nat) (xs : List Value), v = .slice (some ⟨g, 0, none⟩) l.length c ∧ g ∈ D ∧ l.length ≤ c ∧ c ≤ maxLen ∧ xs.length = l.length * sz ∧ (∀ u ∈ xs, u.oneCell' = true) ∧ (∀ j u, xs[j]? = some u → w.cell? ⟨g, j, none⟩ = some u) ∧ (∀ j, w.frozen? ⟨g, j, none⟩ = false) ∧
      (∃ cur, w.heap[g]? = some (.cells cur e (0, 0))) ∧
      ∀ w', (∀ b ∈ D, b ≠ g → w'.heap[b]? = w.heap[b]?) → Seg g 0 (l.length * sz) w w' → (∀ j, j < (l.length - 1) * sz → w'.cell? ⟨g, j, none⟩ = (xs.take (i * sz) ++ xs.drop ((i + 1) * sz))[j]?) →
        ∃ D', owRow e sz R w' D' (.slice (some ⟨g, 0, none⟩) (l.length - 1) c) (l.eraseIdx i) ∧ D'.Nodup ∧ ∀ b ∈ D', b ∈ D := by
  obtain ⟨xs, Dr, h1, hD, h3⟩ := h
  have hone := owEl_ones (fun hR => o.one hR) h3
  obtain ⟨Da, Di, Db, xa, xi, xb, e1, e2, e3, e4, e5, e6, e7⟩ := owEl_split (fun hR => o.len hR) i hi h3
  rcases h1.2 with ⟨_, hn⟩ | ⟨g, cap, cur, hv, hb0, hh, hnc, hm, hs, ht⟩
  · omega
  have hob : v.ownBlock = some g := by rw [hv]; rfl
  have hDD : D = g :: (Da ++ (Di ++ Db)) := by rw [hD, hob, e1]; rfl
  have hND := hN
  rw [hDD] at hND
  simp only [List.nodup_cons, List.nodup_append, List.mem_append, not_or] at hND
  obtain ⟨⟨ga, gi, gb⟩, na, ⟨ni, nb, dib⟩, dai⟩ := hND
  have hxl : xs.length = l.length * sz := h1.1
  have hil : (i + 1) * sz ≤ l.length * sz := Nat.mul_le_mul_right _ hi
  have hsub : (l.length - 1) * sz + sz = l.length * sz := by rw [← Nat.succ_mul]; congr 1; omega
  have hcell : ∀ j u, xs[j]? = some u → w.cell? ⟨g, j, none⟩ = some u := fun j u hu => by
    have := h1.cells (g := g) hob j u hu
    rw [add_zero_] at this
    exact this
  refine ⟨g, cap, xs, hv, by rw [hDD]; simp, hnc, hm, hxl, hone, hcell, fun j => frozen_of_row w g j cur e hh, ⟨cur, hh⟩, fun w' hkeep hseg hnew => ?_⟩
  obtain ⟨c1, c2, e', s1, s2, s3, s4⟩ := hseg
  rw [hh] at s1
  injection s1 with s1
  injection s1 with s1 s1e
  subst s1 s1e
  have hle : (l.eraseIdx i).length = l.length - 1 := List.length_eraseIdx_of_lt hi
  have hcutl : xs.take (i * sz) ++ xs.drop ((i + 1) * sz) = xa ++ xb := by
    have h2 : (i + 1) * sz = (xa ++ xi).length := by rw [List.length_append, e3, e4, Nat.succ_mul]
    rw [e2, ← e3, List.take_left, h2, ← List.append_assoc, List.drop_left]
  have hcl : (xa ++ xb).length = (l.length - 1) * sz := by
    have := congrArg List.length e2
    simp only [List.length_append] at this ⊢
    omega
  have hmv : ∀ {E : List Nat} {ys : List Value} {m : List α}, (∀ b ∈ E, b ∈ D ∧ b ≠ g) → owEl (R w) E ys m → owEl (R w') E ys m := fun hE hm => owEl_imp hm fun D1 cs y hs' _ hR => o.mov hR fun b hb => by
    obtain ⟨k1, k2⟩ := hE b (hs' b hb)
    exact hkeep b k1 k2
  refine ⟨g :: (Da ++ Db), ⟨xa ++ xb, Da ++ Db, ⟨by rw [hcl, hle], .inr ⟨g, cap, c2, by rw [hle], hb0, s2, by rw [hle]; omega, hm, by rw [s3]; exact hs, ?_⟩⟩, rfl, ?_⟩, ?_, fun b hb => ?_⟩
  · rw [hle, ← hcutl]
    apply List.ext_getElem?
    intro q
    by_cases hq : q < (l.length - 1) * sz
    · rw [List.getElem?_take_of_lt hq, Array.getElem?_toList, ← hnew q hq, cell_of_row w' g q c2 e (0, 0) s2]
    · rw [List.getElem?_eq_none (by rw [List.length_take]; omega), List.getElem?_eq_none (by rw [hcutl, hcl]; omega)]
  · rw [List.eraseIdx_eq_take_drop_succ]
    exact owEl_append (hmv (fun b hb => ⟨by rw [hDD]; simp [hb], fun h => ga (h ▸ hb)⟩) e5) (hmv (fun b hb => ⟨by rw [hDD]; simp [hb], fun h => gb (h ▸ hb)⟩) e7)
  · simp only [List.nodup_cons, List.nodup_append, List.mem_append, not_or]
    exact ⟨⟨ga, gb⟩, na, nb, fun a ha b hb hab => dai a ha b (.inr hb) hab⟩
  · rw [hDD]
    simp only [List.mem_cons, List.mem_append] at hb ⊢
    rcases hb with h | h | h
    · exact .inl h
    · exact .inr (.inl h)
    · exact .inr (.inr (.inr h))
/-- The same shape under a name: what is left where a row's elements behind i move up by one, and the last one's cells are written anew. -/
theorem cut_world {w : World} {g i n sz : Nat} {xs zs : List Value} {cur : Array Value} {e : TypeId} (hi : i < n) (hx : xs.length = n * sz) (hz : zs.length = sz) (hh : w.heap[g]? = some (.cells cur e (0, 0))) (hc : ∀ j u, xs[j]? = some u → w.cell? ⟨g, j, none⟩ = some u) :
    Seg g 0 (n * sz) w (sets (sets w g (i * sz) (xs.drop ((i + 1) * sz))) g ((n - 1) * sz) zs) ∧
    ∀ j, j < (n - 1) * sz → (sets (sets w g (i * sz) (xs.drop ((i + 1) * sz))) g ((n - 1) * sz) zs).cell? ⟨g, j, none⟩ = (xs.take (i * sz) ++ xs.drop ((i + 1) * sz))[j]? := by
  have hil : (i + 1) * sz ≤ n * sz := Nat.mul_le_mul_right _ hi
  have hsub : (n - 1) * sz + sz = n * sz := by rw [← Nat.succ_mul]; congr 1; omega
  have hii : (i + 1) * sz = i * sz + sz := Nat.succ_mul _ _
  have hdl : (xs.drop ((i + 1) * sz)).length = n * sz - (i + 1) * sz := by rw [List.length_drop, hx]
  refine ⟨sets_seg g 0 (n * sz) zs _ w _ (sets_seg g 0 (n * sz) _ _ w w (Seg.refl hh) (Nat.zero_le _) (by omega)) (Nat.zero_le _) (by omega), fun j hj => ?_⟩
  rw [sets_cell_lt g zs _ _ j hj]
  by_cases h : j < i * sz
  · rw [sets_cell_lt g _ _ _ j h, List.getElem?_append_left (by rw [List.length_take]; omega), List.getElem?_take_of_lt h, List.getElem?_eq_getElem (show j < xs.length by omega)]
    exact hc j _ (List.getElem?_eq_getElem (by omega))
  · have hl2 : (xs.take (i * sz)).length = i * sz := by rw [List.length_take]; omega
    rw [List.getElem?_append_right (by omega), hl2, List.getElem?_eq_getElem (show j - i * sz < (xs.drop ((i + 1) * sz)).length by omega)]
    have := sets_cell g (xs.drop ((i + 1) * sz)) (i * sz) w (fun q hq => ⟨_, hc (i * sz + q) _ (List.getElem?_eq_getElem (by omega))⟩) (j - i * sz) _ (List.getElem?_eq_getElem (by omega))
    rw [show i * sz + (j - i * sz) = j by omega] at this
    exact this
/-! The elements of a row but one; several elements appended at a step of a region that draws. -/
theorem owRow_rest {α : Type} {e sz : Nat} {R : World → List Nat → List Value → α → Prop} {K : World → List Value → α → Prop} (o : Ow sz R K) {w : World} {D : List Nat} {v : Value} {l : List α} (h : owRow e sz R w D v l) (hN : D.Nodup)
    (i : Nat) (hi : i < l.length) :
    ∃ (g c : Nat) (xs : List Value) (Dr : List Nat), v = .slice (some ⟨g, 0, none⟩) l.length c ∧ g ∈ D ∧ l.length ≤ c ∧ c ≤ maxLen ∧ xs.length = l.length * sz ∧ (∀ u ∈ xs, u.oneCell' = true) ∧ (∀ j u, xs[j]? = some u → w.cell? ⟨g, j, none⟩ = some u) ∧
      owEl (R w) Dr (xs.take (i * sz) ++ xs.drop ((i + 1) * sz)) (l.eraseIdx i) ∧ Dr.Nodup ∧ ∀ b ∈ Dr, b ∈ D ∧ b ≠ g := by
  obtain ⟨xs, Dr, h1, hD, h3⟩ := h
  have hone := owEl_ones (fun hR => o.one hR) h3
  obtain ⟨Da, Di, Db, xa, xi, xb, e1, e2, e3, e4, e5, e6, e7⟩ := owEl_split (fun hR => o.len hR) i hi h3
  rcases h1.2 with ⟨_, hn⟩ | ⟨g, cap, cur, hv, hb0, hh, hnc, hm, hs, ht⟩
  · omega
  have hob : v.ownBlock = some g := by rw [hv]; rfl
  have hDD : D = g :: (Da ++ (Di ++ Db)) := by rw [hD, hob, e1]; rfl
  have hND := hN
  rw [hDD] at hND
  simp only [List.nodup_cons, List.nodup_append, List.mem_append, not_or] at hND
  obtain ⟨⟨ga, gi, gb⟩, na, ⟨ni, nb, dib⟩, dai⟩ := hND
  have hcell : ∀ j u, xs[j]? = some u → w.cell? ⟨g, j, none⟩ = some u := fun j u hu => by
    have := h1.cells (g := g) hob j u hu
    rw [add_zero_] at this
    exact this
  have hcutl : xs.take (i * sz) ++ xs.drop ((i + 1) * sz) = xa ++ xb := by
    have h2 : (i + 1) * sz = (xa ++ xi).length := by rw [List.length_append, e3, e4, Nat.succ_mul]
    rw [e2, ← e3, List.take_left, h2, ← List.append_assoc, List.drop_left]
  refine ⟨g, cap, xs, Da ++ Db, hv, by rw [hDD]; simp, hnc, hm, h1.1, hone, hcell, ?_, ?_, fun b hb => ?_⟩
  · rw [hcutl, List.eraseIdx_eq_take_drop_succ]
    exact owEl_append e5 e7
  · simp only [List.nodup_append]
    exact ⟨na, nb, fun a ha b hb hab => dai a ha b (.inr hb) hab⟩
  · rw [List.mem_append] at hb
    rcases hb with h | h
    · exact ⟨by rw [hDD]; simp [h], fun e => ga (e ▸ h)⟩
    · exact ⟨by rw [hDD]; simp [h], fun e => gb (e ▸ h)⟩
theorem own_shape {w : World} {base e size n : Nat} {v : Value} {xs : List Value} (h : w.ownsRow base e size v n xs) : ∃ A c, v = .slice A n c := by
  rcases h.2 with ⟨h1, h2⟩ | ⟨g, cap, cur, hv, _⟩
  · exact ⟨none, 0, by rw [h1, h2]⟩
  · exact ⟨_, cap, hv⟩
/-- Elements that lie somewhere (none, too) appended to a row that is owned. -/
theorem step_append_any {e t sz by_ : Nat} {w : World} {ops : Array Oper} {o : Oper} {a : Act} {K : Act → World → Prop} {Q : Exit → Act → World → Prop} {E : Prop} (el : El t e sz by_) (hgd : o.guard = none) (s x : Operand)
    (ho : o.op = .call { callee := .builtin .append, args := #[s, x], argTypes := #[t, t] }) (v : Value) (n : Nat) (xs : List Value) (hs : a.eval s = v) (hown : w.ownsRow 0 e sz v n xs)
    (ad : Addr) (m c : Nat) (news : List Value) (hx : a.eval x = .slice (some ad) m c) (hl : news.length = m * sz) (hnews : ∀ j u, news[j]? = some u → w.cell? (ad.add j) = some u) (h1 : ∀ u ∈ news, u.oneCell' = true)
    (hbytes : (n + m) * by_ ≤ 140737488355328) (k : Nat) (hk : n + m = k) (hk2 : k ≤ 4000000000)
    (h : ∀ A cap w', w'.ownsRow 0 e sz (.slice A k cap) k (xs ++ news) → w.grownBy w' v.ownBlock → ((Value.slice A k cap).ownBlock = v.ownBlock ∨ (Value.slice A k cap).ownBlock = some w.heap.size) → K (a.put o.dst (.slice A k cap)) w') :
    if Region.wanted o (yielded ops a.tmps) = true then Oper.wp Try.prog o a w K Q else E := by
  obtain ⟨i, z, ht, hi, hz, hz1, hz2, hz3, hsz⟩ := el
  subst hk
  have hw : Region.wanted o (yielded ops a.tmps) = true := by simp [Region.wanted, hgd]
  rw [if_pos hw]
  obtain ⟨v', w', hr, h2, h3, _, h5⟩ := run_append_own_at (P := Try.prog) w 0 t o.type e i z sz by_ ht hi hz hz1 hz2 hz3 hsz v n xs hown ad m c news hl hnews h1 (by unfold maxLen; omega) hbytes (Nat.zero_le _)
  obtain ⟨A, cap, rfl⟩ := own_shape h2
  unfold Oper.wp execOp
  simp only [ho, resolve, invoke, builtin, Sem.run_bind, Sem.run_pure, Result.andThen_ok, List.map_toArray, List.map_cons, List.map_nil, hs, hx, hr]
  exact h A cap w' h2 h3 h5
/-! slices.Delete of one mail: the walk. -/
theorem sets_keepD (g : Nat) {D : List Nat} (hg : g ∈ D) : ∀ (cs : List Value) (o : Nat) (w : World), Keep D w (sets w g o cs)
  | [], _, _ => Keep.refl _ _
  | u :: us, o, w => ((Keep.refl D w).set (p := ⟨g, o, none⟩) hg u).trans (sets_keepD g hg us (o + 1) _)
/-- 'clear(s)', s a slice of one mail. -/
theorem clear_mail (w : World) (g o c : Nat) (ty : TypeId) (hc : ∀ j, j < 4 → (w.cell? ⟨g, o + j, none⟩).isSome = true) (hf : ∀ j, j < 4 → w.frozen? ⟨g, o + j, none⟩ = false) :
    (Builtin.clear_ #[30] ty #[.slice (some ⟨g, o, none⟩) 1 c]).run Try.prog w = .ok (.tuple #[]) (w.setCells g o [.int .i64 0, .int .i64 0, .slice none 0 0, .string ⟨#[]⟩]) := by
  have hst := run_storeCells_cells (P := Try.prog) g o [.int .i64 0, .int .i64 0, .slice none 0 0, .string ⟨#[]⟩] 0 w (by simpa using hc) (by simpa using hf) (by intro v hv'; simp at hv'; rcases hv' with rfl | rfl | rfl <;> rfl)
  simp only [Nat.add_zero] at hst
  have hz : (Builtin.zeroCells #[Value.int .i64 0, .int .i64 0, .slice none 0 0, .string ⟨#[]⟩] 1).toList = [.int .i64 0, .int .i64 0, .slice none 0 0, .string ⟨#[]⟩] := by
    simp [Builtin.zeroCells]
    rfl
  simp [Builtin.clear_, run_underlying Try.underlying30, Try.zeroValue58, Value.cells, hz, hst]
set_option maxHeartbeats 2000000 in
set_option maxRecDepth 100000 in
theorem delete_calls (w : World) (D : List Nat) (v : Value) (l : List Mail) (i : Nat) (h : owMails w D v l) (hN : D.Nodup) (hi : i < l.length) :
    Calls Try.prog 77 #[v, .int .i64 i, .int .i64 ((i : Int) + 1)] w fun e w' => ∃ g c D', v = .slice (some ⟨g, 0, none⟩) l.length c ∧ e = .returned (.slice (some ⟨g, 0, none⟩) (l.length - 1) c) ∧
      owMails w' D' (.slice (some ⟨g, 0, none⟩) (l.length - 1) c) (l.eraseIdx i) ∧ D'.Nodup ∧ (∀ b ∈ D', b ∈ D) ∧ Keep D w w' := by
  obtain ⟨i0, hi0, hz0, hz1, hz2⟩ := info_parts (show (Try.prog.info? 58).map (fun i => (i.zero, i.size, i.bytes)) = some (some (.agg #[.int .i64 0, .int .i64 0, .slice none 0 0, .string ⟨#[]⟩]), 4, 56) by kernel_rfl)
  obtain ⟨g, c, xs, rfl, hgD, hlc, hcm, hxl, hone, hcell, hfr, ⟨cur, hh⟩, F⟩ := owRow_cut ow_mail h hN i hi
  have hm : c ≤ 9223372036854775807 := hcm
  obtain ⟨n, hn⟩ : ∃ n, n = l.length := ⟨_, rfl⟩
  rw [← hn] at hi hlc hxl F
  rw [← hn]
  have HNL := Aside.mk hn
  clear hn
  obtain ⟨news, hnews⟩ : ∃ news, news = xs.drop ((i + 1) * 4) := ⟨_, rfl⟩
  have hlen : news.length = n * 4 - (i + 1) * 4 := by rw [hnews, List.length_drop, hxl]
  obtain ⟨A, hA, hsrc⟩ : ∃ A : Addr, (if c = i + 1 then some (⟨g, 0, none⟩ : Addr) else some ⟨g, (i + 1) * 4, none⟩) = some A ∧ Hid (∀ t u, news[t]? = some u → w.drew.cell? (A.add t) = some u) := by
    by_cases hc1 : c = i + 1
    · refine ⟨⟨g, 0, none⟩, by simp [hc1], fun t u hu => ?_⟩
      have := (List.getElem?_eq_some_iff.1 hu).1
      omega
    · refine ⟨⟨g, (i + 1) * 4, none⟩, by simp [hc1], fun t u hu => ?_⟩
      rw [hnews, List.getElem?_drop] at hu
      rw [Addr.add_lit]
      exact hcell _ u hu
  have s1 : Hid (news.length = (n - (i + 1)) * 4) := by show _ = _; omega
  have s2 : Hid (∀ u ∈ news, u.oneCell' = true) := fun u hu => hone u (List.mem_of_mem_drop (hnews ▸ hu))
  have s3 : Hid (∀ t, t < news.length → (w.drew.cell? ⟨g, 0 + i * 4 + t, none⟩).isSome = true ∧ w.drew.frozen? ⟨g, 0 + i * 4 + t, none⟩ = false) := by
    intro t ht
    have ht2 : 0 + i * 4 + t < xs.length := by omega
    refine ⟨?_, hfr _⟩
    show (w.cell? _).isSome = true
    rw [hcell _ _ (List.getElem?_eq_getElem ht2)]
    rfl
  have hp0 : (0 : Int) ≤ (i : Int) + 1 := by omega
  have hp1 : (i : Int) + 1 ≤ (n : Int) := by omega
  have hp2 : ((i : Int) + 1).toNat = i + 1 := by omega
  have hp3 : (i : Int) ≤ (i : Int) + 1 := by omega
  have hp4 : ¬ ((i : Int) = (i : Int) + 1) := by omega
  have hp5 : (n : Int) ≤ (c : Int) := by omega
  have hic : i ≤ c := by omega
  obtain ⟨W1, hW1⟩ : ∃ W1, W1 = w.drew.setCells g (0 + i * 4) news := ⟨_, rfl⟩
  have hcl : ∀ ty, (Builtin.clear_ #[30] ty #[.slice (some ⟨g, (n - 1) * 4, none⟩) 1 (c - (n - 1))]).run Try.prog W1 = .ok (.tuple #[]) (W1.setCells g ((n - 1) * 4) [.int .i64 0, .int .i64 0, .slice none 0 0, .string ⟨#[]⟩]) := fun ty => by
    refine clear_mail W1 g _ _ ty (fun j hj => ?_) (fun j hj => ?_)
    · rw [hW1, setCells_sets]
      have hq : ∀ q, q < xs.length → ∃ u, w.cell? ⟨g, q, none⟩ = some u := fun q hq => ⟨_, hcell _ _ (List.getElem?_eq_getElem hq)⟩
      obtain ⟨c1, c2, e', s1, s2, s3, _⟩ := sets_seg g 0 (n * 4) news (0 + i * 4) w.drew w.drew (Seg.refl hh) (Nat.zero_le _) (by omega)
      obtain ⟨u, hu⟩ := hq ((n - 1) * 4 + j) (by omega)
      rw [cell_of_row w g _ c1 e' (0, 0) s1] at hu
      have := (Array.getElem?_eq_some_iff.1 hu).1
      rw [cell_of_row _ g _ c2 e' (0, 0) s2, Array.getElem?_eq_getElem (by omega)]
      rfl
    · rw [hW1, World.frozen?_setCells]
      exact hfr _
  have hk1 : i + (n - (i + 1)) = n - 1 := by omega
  have hk2 : n - (n - 1) = 1 := by omega
  have HW1 := Aside.mk hW1
  have HF := Aside.mk F
  have HH := Aside.mk hh
  have HC := Aside.mk hcell
  have HX := Aside.mk (And.intro hxl (And.intro hnews hlen))
  clear F hcell hfr hone hh hW1 hxl hnews hlen h
  go_enter Try.func77, Try.ntmps77
  go_wp2_with fail
  go_region_law (refine step_append_room rfl (.tmp 22) (.tmp 25) 30 rfl 58 i0 4 Try.underlying30 hi0 hz1 g 0 i c (by simp [Act.eval, Act.put]) A (n - (i + 1)) (c - (i + 1)) news (by simp [Act.eval, Act.put]) s1.out hsrc.out s2.out (by omega) s3.out ?_; rw [← HW1.out])
  go_wp2
  go_ret
  obtain ⟨k1, k2⟩ := cut_world (w := w.drew) (zs := [.int .i64 0, .int .i64 0, .slice none 0 0, .string ⟨#[]⟩]) hi HX.out.1 rfl HH.out HC.out
  rw [HW1.out, setCells_sets, setCells_sets, Nat.zero_add, HX.out.2.1]
  obtain ⟨D', d1, d2, d3⟩ := HF.out _ (fun b _ hb => by rw [sets_far g _ _ _ b hb, sets_far g _ _ _ b hb]; rfl) k1 k2
  refine ⟨g, c, D', rfl, rfl, d1, d2, d3, ?_⟩
  exact ((Keep.of_below (D := D) (below_drew (Below.refl _ w))).trans (sets_keepD g hgD _ (i * 4) w.drew)).trans (sets_keepD g hgD _ ((n - 1) * 4) _)
end Go.Proofs.Ytjfjpabfkembcaa.H
