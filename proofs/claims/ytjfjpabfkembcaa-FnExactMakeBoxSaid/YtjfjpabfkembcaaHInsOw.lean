/- slices.Insert of one box, in words of rows that are owned. -/
import Derived.Test.YtjfjpabfkembcaaHIns
namespace Go.Proofs.Ytjfjpabfkembcaa.H
open Go.RowKit
set_option linter.unusedVariables false
set_option linter.unusedSimpArgs false
theorem owRow_into {α : Type} {e sz : Nat} {R : World → List Nat → List Value → α → Prop} {K : World → List Value → α → Prop} (o : Ow sz R K) {w : World} {D : List Nat} {v : Value} {l : List α} (h : owRow e sz R w D v l) (hN : D.Nodup)
    (i : Nat) (hi : i < l.length) :
    ∃ (g c : Nat) (xs : List Value) (Dr : List Nat) (cur : Array Value), v = .slice (some ⟨g, 0, none⟩) l.length c ∧ D = g :: Dr ∧ l.length ≤ c ∧ c ≤ maxLen ∧ xs.length = l.length * sz ∧ (∀ u ∈ xs, u.oneCell' = true) ∧ (∀ j u, xs[j]? = some u → w.cell? ⟨g, j, none⟩ = some u) ∧
      w.heap[g]? = some (.cells cur e (0, 0)) ∧ cur.size = c * sz ∧
      ∀ w' v' cs x, (∀ b ∈ Dr, w'.heap[b]? = w.heap[b]?) → R w' [] cs x → w'.ownsRow 0 e sz v' (l.length + 1) (xs.take (i * sz) ++ (cs ++ xs.drop (i * sz))) → owRow e sz R w' (v'.ownBlock.toList ++ Dr) v' (l.take i ++ x :: l.drop i) := by
  obtain ⟨xs, Dr, h1, hD, h3⟩ := h
  have hone := owEl_ones (fun hR => o.one hR) h3
  obtain ⟨Da, Di, Db, xa, xi, xb, e1, e2, e3, e4, e5, e6, e7⟩ := owEl_split (fun hR => o.len hR) i hi h3
  rcases h1.2 with ⟨_, hn⟩ | ⟨g, cap, cur, hv, hb0, hh, hnc, hm, hs, ht⟩
  · omega
  have hob : v.ownBlock = some g := by rw [hv]; rfl
  have hcell : ∀ j u, xs[j]? = some u → w.cell? ⟨g, j, none⟩ = some u := fun j u hu => by
    have := h1.cells (g := g) hob j u hu
    rw [add_zero_] at this
    exact this
  have hxt : xs.take (i * sz) = xa := by rw [e2, ← e3, List.take_left]
  have hxd : xs.drop (i * sz) = xi ++ xb := by rw [e2, ← e3, List.drop_left]
  refine ⟨g, cap, xs, Dr, cur, hv, by rw [hD, hob]; rfl, hnc, hm, h1.1, hone, hcell, hh, hs, fun w' v' cs x hk hx ho => ?_⟩
  have hmv : ∀ {E : List Nat} {ys : List Value} {m : List α}, (∀ b ∈ E, b ∈ Dr) → owEl (R w) E ys m → owEl (R w') E ys m := fun hE hm => owEl_imp hm fun D1 cs y hs' _ hR => o.mov hR fun b hb => hk b (hE b (hs' b hb))
  refine ⟨_, Dr, by rw [List.length_append, List.length_cons, List.length_take, List.length_drop, show min i l.length + (l.length - i + 1) = l.length + 1 by omega]; exact ho, rfl, ?_⟩
  rw [hxt, hxd, e1]
  refine owEl_append (hmv (fun b hb => by rw [e1]; simp [hb]) e5) ⟨[], Di ++ Db, cs, xi ++ xb, rfl, rfl, hx, ?_⟩
  rw [List.drop_eq_getElem_cons hi]
  exact ⟨Di, Db, xi, xb, rfl, rfl, o.mov e6 fun b hb => hk b (by rw [e1]; simp [hb]), hmv (fun b hb => by rw [e1]; simp [hb]) e7⟩
/-- A row whose first cells are known owns them. -/
theorem owns_of {w : World} {g n c sz e : Nat} {cur : Array Value} {ys : List Value} (hh : w.heap[g]? = some (.cells cur e (0, 0))) (hs : cur.size = c * sz) (hnc : n ≤ c) (hm : c ≤ maxLen) (hy : ys.length = n * sz)
    (hc : ∀ j, j < n * sz → w.cell? ⟨g, j, none⟩ = ys[j]?) : w.ownsRow 0 e sz (.slice (some ⟨g, 0, none⟩) n c) n ys := by
  refine ⟨hy, .inr ⟨g, c, cur, rfl, Nat.zero_le _, hh, hnc, hm, hs, ?_⟩⟩
  apply List.ext_getElem?
  intro q
  by_cases hq : q < n * sz
  · rw [List.getElem?_take_of_lt hq, Array.getElem?_toList, ← hc q hq, cell_of_row w g q cur e (0, 0) hh]
  · rw [List.getElem?_eq_none (by rw [List.length_take]; omega), List.getElem?_eq_none (by omega)]
theorem ins_at {xs cs : List Value} {a sz j : Nat} (hx : a ≤ xs.length) (hc : cs.length = sz) : (xs.take a ++ (cs ++ xs.drop a))[j]? = if j < a then xs[j]? else if j < a + sz then cs[j - a]? else xs[j - sz]? := by
  have hl : (xs.take a).length = a := by rw [List.length_take]; omega
  by_cases h1 : j < a
  · rw [if_pos h1, List.getElem?_append_left (by omega), List.getElem?_take_of_lt h1]
  · rw [if_neg h1, List.getElem?_append_right (by omega), hl]
    by_cases h2 : j < a + sz
    · rw [if_pos h2, List.getElem?_append_left (by omega)]
    · rw [if_neg h2, List.getElem?_append_right (by omega), List.getElem?_drop]
      congr 1
      omega
theorem ins_a {w : World} {g a sz : Nat} {xs cs : List Value} (hx : a ≤ xs.length) (hc : cs.length = sz) (hlow : ∀ j, j < a → w.cell? ⟨g, j, none⟩ = xs[j]?) (hs : ∀ j, j < xs.length + sz → (w.cell? ⟨g, j, none⟩).isSome = true) (j : Nat) (hj : j < xs.length + sz) :
    ((w.setCells g (a + sz) (xs.drop a)).setCells g a cs).cell? ⟨g, j, none⟩ = (xs.take a ++ (cs ++ xs.drop a))[j]? := by
  have hdl : (xs.drop a).length = xs.length - a := List.length_drop
  rw [ins_at hx hc]
  have h1s : ∀ k, k < xs.length + sz → ((w.setCells g (a + sz) (xs.drop a)).cell? ⟨g, k, none⟩).isSome = true := fun k hk => isSome_setCells g _ _ w (fun q hq => hs _ (by omega)) k (hs k hk)
  by_cases h1 : j < a
  · rw [if_pos h1, World.cell?_setCells_out g cs a _ ⟨g, j, none⟩ (fun _ _ => .inl h1), World.cell?_setCells_out g _ (a + sz) _ ⟨g, j, none⟩ (fun _ _ => .inl (by show j < a + sz; omega)), hlow j h1]
  · rw [if_neg h1]
    by_cases h2 : j < a + sz
    · rw [if_pos h2]
      have := World.cell?_setCells_in g cs a (w.setCells g (a + sz) (xs.drop a)) (fun q hq => h1s _ (by omega)) (j - a) (by omega)
      rw [show a + (j - a) = j by omega] at this
      rw [this, List.getElem?_eq_getElem]
    · rw [if_neg h2, World.cell?_setCells_out g cs a _ ⟨g, j, none⟩ (fun _ _ => .inr (by show a + cs.length ≤ j; omega))]
      have := World.cell?_setCells_in g (xs.drop a) (a + sz) w (fun q hq => hs _ (by omega)) (j - (a + sz)) (by omega)
      rw [show a + sz + (j - (a + sz)) = j by omega] at this
      rw [this, List.getElem_drop, ← List.getElem?_eq_getElem]
      congr 1
      omega
theorem ins_b {w : World} {g a sz : Nat} {xs cs : List Value} (hx : a ≤ xs.length) (hc : cs.length = sz) (hlow : ∀ j, j < a → w.cell? ⟨g, j, none⟩ = xs[j]?) (hs : ∀ j, j < xs.length + sz → (w.cell? ⟨g, j, none⟩).isSome = true) (j : Nat) (hj : j < xs.length + sz) :
    (((w.setCells g a cs).drew).setCells g (a + sz) (xs.drop a)).cell? ⟨g, j, none⟩ = (xs.take a ++ (cs ++ xs.drop a))[j]? := by
  have hdl : (xs.drop a).length = xs.length - a := List.length_drop
  rw [ins_at hx hc]
  have h1s : ∀ k, k < xs.length + sz → ((w.setCells g a cs).drew.cell? ⟨g, k, none⟩).isSome = true := fun k hk => isSome_setCells g cs a w (fun q hq => hs _ (by omega)) k (hs k hk)
  by_cases h1 : j < a
  · rw [if_pos h1, World.cell?_setCells_out g _ (a + sz) _ ⟨g, j, none⟩ (fun _ _ => .inl (by show j < a + sz; omega))]
    show (w.setCells g a cs).cell? _ = _
    rw [World.cell?_setCells_out g cs a _ ⟨g, j, none⟩ (fun _ _ => .inl h1), hlow j h1]
  · rw [if_neg h1]
    by_cases h2 : j < a + sz
    · rw [if_pos h2, World.cell?_setCells_out g _ (a + sz) _ ⟨g, j, none⟩ (fun _ _ => .inl h2)]
      show (w.setCells g a cs).cell? _ = _
      have := World.cell?_setCells_in g cs a w (fun q hq => hs _ (by omega)) (j - a) (by omega)
      rw [show a + (j - a) = j by omega] at this
      rw [this, List.getElem?_eq_getElem]
    · rw [if_neg h2]
      have := World.cell?_setCells_in g (xs.drop a) (a + sz) (w.setCells g a cs).drew (fun q hq => h1s _ (by omega)) (j - (a + sz)) (by omega)
      rw [show a + sz + (j - (a + sz)) = j by omega] at this
      rw [this, List.getElem_drop, ← List.getElem?_eq_getElem]
      congr 1
      omega
set_option maxHeartbeats 2000000 in
set_option maxRecDepth 100000 in
theorem insert_calls (w0 w : World) (D : List Nat) (v : Value) (l : List Box) (i : Nat) (x : Box) (cs : List Value) (B : Nat) (e' : TypeId) (h : owBoxes w D v l) (hn : New w0 w D) (hw0 : w0.heap.size ≤ w.heap.size) (hi : i ≤ l.length) (hl : l.length ≤ 4000000)
    (hx : ∀ w', owBox w' [] cs x) (hB : Loc w B cs.toArray e') (hBD : B ∉ D) :
    Calls Try.prog 97 #[v, .int .i64 i, .slice (some ⟨B, 0, none⟩) 1 1] w fun e w' => ∃ A c D', e = .returned (.slice A (l.length + 1) c) ∧ owBoxes w' D' (.slice A (l.length + 1) c) (l.take i ++ x :: l.drop i) ∧ New w0 w' D' ∧ (∀ b ∈ D', b ∈ D ∨ w.heap.size ≤ b) ∧ Keep D w w' := by
  have hcs7 : cs.length = 7 := ow_box.len (hx w)
  have h1v := ow_box.one (hx w)
  by_cases hend : i = l.length
  · subst hend
    obtain ⟨A1, c1, rfl⟩ := cell_own ow_box h
    have HO := Aside.mk h
    have HN := Aside.mk hn
    have HLL := Aside.mk hl
    have HW0 := Aside.mk hw0
    have HX := Aside.mk hx
    have HB := Aside.mk hB
    have HT : Aside (l.take l.length ++ x :: l.drop l.length = l ++ [x]) := ⟨by simp⟩
    have hm : l.length ≤ 9223372036854775807 := by omega
    clear h hn hw0 hi hx hB h1v hcs7
    go_enter Try.func97, Try.ntmps97
    go_wp2_with (at_builtin; refine list_snoc el_box ow_box HO.out (w0 := w0) (y := x) (Dx := []) (cs := cs) (HX.out _) (by rw [List.append_nil]; exact HN.out) HW0.out (.tmp 23) (.tmp 24) (by rfl) (by rfl) (by rfl) B (by rfl) HB.out (by have := HLL.out; omega) (by have := HLL.out; omega) w.heap.size rfl (fun g cap w' D' hk1 hk2 hk3 hk => ?_); have HO2 := Aside.mk hk1; have HN2 := Aside.mk hk2; have HD2 := Aside.mk hk3; have HK2 := Aside.mk hk; clear hk1 hk2 hk3 hk)
    all_goals go_ret
    all_goals (refine ⟨some ⟨g, 0, none⟩, cap, rfl, D', ?_, HN2.out, fun b hb => (HD2.out b hb).imp (fun h => by simpa using h) (fun h => Nat.le_of_eq h.symm), HK2.out⟩)
    all_goals (first | exact HO2.out | (rw [HT.out]; exact HO2.out))
  · have hlt : i < l.length := by omega
    obtain ⟨g, c, xs, Dr, cur, rfl, rfl, hnc, hcm, hxl, hone, hcell, hh, hcs, F⟩ := owRow_into ow_box h hn.1 i hlt
    have hgB : B ≠ g := fun e => hBD (by simp [e])
    have hBc : ∀ j u, cs[j]? = some u → w.cell? ⟨B, j, none⟩ = some u := fun j u hu => by
      rw [hB.cells j]
      simpa using hu
    have hgw := (hn.2 g (by simp)).2
    have hndr := List.nodup_cons.1 hn.1
    by_cases hroom : l.length + 1 ≤ c
    · refine (insert_shift w g l.length c i B xs cs hlt hroom (by unfold maxLen at hcm; omega) hgB hxl hcs7 hcell (fun j hj => ?_) (fun j => frozen_of_row w g j cur _ hh) hBc hone h1v _ _ _ _ (by unfold World.shape?; rw [hB]) (by unfold World.shape?; rw [hh]) (by rw [hcs]; omega) (hB.free 0) (hB.free _)).mono ?_
      · rw [cell_of_row w g j cur _ (0, 0) hh, Array.getElem?_eq_getElem (by rw [hcs]; omega)]
        rfl
      rintro e w' ⟨rfl, hw'⟩
      have hxlt : i * 7 ≤ xs.length := by omega
      have hsome : ∀ j, j < xs.length + 7 → (w.drew.cell? ⟨g, j, none⟩).isSome = true := fun j hj => by
        show (w.cell? _).isSome = true
        rw [cell_of_row w g j cur _ (0, 0) hh, Array.getElem?_eq_getElem (by rw [hcs]; omega)]
        rfl
      have hins := ins_a (w := w.drew) (g := g) (a := i * 7) (xs := xs) (cs := cs) hxlt hcs7 (fun j hj => by rw [List.getElem?_eq_getElem (by omega)]; exact hcell j _ (List.getElem?_eq_getElem (by omega))) hsome
      have hb7 : i * 7 + 7 = (i + 1) * 7 := by omega
      rw [hb7, ← hw'] at hins
      have hw2 := hw'
      rw [setCells_sets, setCells_sets] at hw2
      obtain ⟨q1, q2, q3, s1, s2, s3, _⟩ := sets_seg g 0 ((l.length + 1) * 7) cs (i * 7) w.drew _ (sets_seg g 0 ((l.length + 1) * 7) (xs.drop (i * 7)) ((i + 1) * 7) w.drew w.drew (Seg.refl hh) (Nat.zero_le _) (by rw [List.length_drop]; omega)) (Nat.zero_le _) (by omega)
      have s1' : w.heap[g]? = some (.cells q1 q3 (0, 0)) := s1
      rw [hh] at s1'
      injection s1' with s1'
      injection s1' with s1' s1e
      subst s1' s1e
      rw [← hw2] at s2
      have hfar : ∀ b ∈ Dr, w'.heap[b]? = w.heap[b]? := fun b hb => by
        rw [hw2, sets_far g _ _ _ b (fun e => hndr.1 (e ▸ hb)), sets_far g _ _ _ b (fun e => hndr.1 (e ▸ hb))]
        rfl
      have ho := F w' (.slice (some ⟨g, 0, none⟩) (l.length + 1) c) cs x hfar (hx w') (owns_of s2 (by rw [s3]; exact hcs) hroom hcm (by simp only [List.length_append, List.length_take, List.length_drop]; omega) (fun j hj => hins j (by omega)))
      refine ⟨_, _, _, rfl, ho, ⟨hn.1, fun b hb => ⟨(hn.2 b hb).1, ?_⟩⟩, fun b hb => .inl hb, ?_⟩
      · have h2 := (hn.2 b hb).2
        rw [hw2, sets_size, sets_size]
        exact h2
      · rw [hw2]
        exact ((Keep.of_below (D := g :: Dr) (below_drew (Below.refl _ w))).trans (sets_keepD g (by simp) _ _ _)).trans (sets_keepD g (by simp) _ _ _)
    · refine (insert_grow w g l.length c i B xs cs hlt hnc (by omega) (by omega) hxl hcs7 hcell hBc hone h1v).mono ?_
      rintro e w' ⟨G, ROW, hG, hGm, hRs, hRt, rfl, hw'⟩
      have hxlt : i * 7 ≤ xs.length := by omega
      have hh0 : (w.alloc (.cells ROW 32)).drew.heap[w.heap.size]? = some (.cells ROW 32 (0, 0)) := heap_alloc_new w _
      have hsome : ∀ j, j < xs.length + 7 → ((w.alloc (.cells ROW 32)).drew.cell? ⟨w.heap.size, j, none⟩).isSome = true := fun j hj => by
        rw [cell_of_row _ w.heap.size j ROW _ (0, 0) hh0, Array.getElem?_eq_getElem (by rw [hRs]; omega)]
        rfl
      have hins := ins_b (w := (w.alloc (.cells ROW 32)).drew) (g := w.heap.size) (a := i * 7) (xs := xs) (cs := cs) hxlt hcs7 (fun j hj => by rw [cell_of_row _ w.heap.size j ROW _ (0, 0) hh0]; exact hRt j hj) hsome
      have hb7 : i * 7 + 7 = (i + 1) * 7 := by omega
      rw [hb7, ← hw'] at hins
      have hw2 := hw'
      rw [setCells_sets, setCells_sets] at hw2
      obtain ⟨q1, q2, q3, s1, s2, s3, _⟩ := sets_seg w.heap.size 0 ((l.length + 1) * 7) (xs.drop (i * 7)) ((i + 1) * 7) (w.alloc (.cells ROW 32)).drew _ ((sets_seg w.heap.size 0 ((l.length + 1) * 7) cs (i * 7) (w.alloc (.cells ROW 32)).drew (w.alloc (.cells ROW 32)).drew (Seg.refl hh0) (Nat.zero_le _) (by omega)).keep (w2 := (sets (w.alloc (.cells ROW 32)).drew w.heap.size (i * 7) cs).drew) rfl) (Nat.zero_le _) (by rw [List.length_drop]; omega)
      rw [hh0] at s1
      injection s1 with s1
      injection s1 with s1 s1e
      subst s1 s1e
      rw [← hw2] at s2
      have hfar : ∀ b, b < w.heap.size → w'.heap[b]? = w.heap[b]? := fun b hb => by
        rw [hw2, sets_far w.heap.size _ _ _ b (by omega)]
        show (sets (w.alloc (.cells ROW 32)).drew w.heap.size (i * 7) cs).heap[b]? = _
        rw [sets_far w.heap.size _ _ _ b (by omega)]
        exact Below.heap_alloc w _ b hb
      have hsz' : w'.heap.size = w.heap.size + 1 := by
        rw [hw2, sets_size]
        show (sets (w.alloc (.cells ROW 32)).drew w.heap.size (i * 7) cs).heap.size = _
        rw [sets_size]
        show (w.alloc _).heap.size = _
        simp
      have HKK : Keep [w.heap.size] w w' := by
        rw [hw2]
        exact (((Keep.of_below (D := [w.heap.size]) (below_drew (below_alloc (Below.refl _ w) _))).trans (sets_keepD w.heap.size (by simp) _ _ _)).trans (Keep.of_below (below_drew (Below.refl _ _)))).trans (sets_keepD w.heap.size (by simp) _ _ _)
      have ho := F w' (.slice (some ⟨w.heap.size, 0, none⟩) (l.length + 1) G) cs x (fun b hb => hfar b (hn.2 b (by simp [hb])).2) (hx w') (owns_of s2 (by rw [s3]; exact hRs) hG hGm (by simp only [List.length_append, List.length_take, List.length_drop]; omega) (fun j hj => hins j (by omega)))
      refine ⟨_, _, _, rfl, ho, ⟨?_, fun b hb => ?_⟩, fun b hb => ?_, ⟨HKK.os, HKK.tape, HKK.output, by omega, fun b hb _ => hfar b hb⟩⟩
      · exact List.nodup_cons.2 ⟨fun hb => by have hb2 : w.heap.size ∈ Dr := hb; have := (hn.2 w.heap.size (by simp [hb2])).2; omega, hndr.2⟩
      · rcases List.mem_cons.1 hb with hb | hb
        · have hb3 : b = w.heap.size := hb
          exact ⟨by omega, by omega⟩
        · have hb2 : b ∈ Dr := hb
          have := hn.2 b (by simp [hb2]); omega
      · rcases List.mem_cons.1 hb with rfl | hb
        · exact .inr (Nat.le_refl _)
        · have hb2 : b ∈ Dr := hb
          exact .inl (by simp [hb2])
end Go.Proofs.Ytjfjpabfkembcaa.H
