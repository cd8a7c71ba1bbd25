/- Copies of lists: a fresh row that reads as the list given: the walks. -/
import Derived.Test.YtjfjpabfkembcaaProg
import Derived.Test.YtjfjpabfkembcaaHTac
import Derived.Laws.AppendOwnNone
import Derived.Maps.AppendAt
import Derived.OwnWalk
namespace Go.Proofs.Ytjfjpabfkembcaa.H
open Go.RowKit
set_option linter.unusedVariables false
set_option linter.unusedSimpArgs false

theorem flat_aux {α : Type} {sz : Nat} {R : List Nat → List Value → α → Prop} {w : World} {ad : Addr} : ∀ (l : List α) (o : Nat),
    (∀ i x, l[i]? = some x → ∃ cs, R [] cs x ∧ cs.length = sz ∧ ∀ j u, cs[j]? = some u → w.cell? (ad.add ((o + i) * sz + j)) = some u) → ∃ news, owEl R [] news l ∧ ∀ j u, news[j]? = some u → w.cell? (ad.add (o * sz + j)) = some u
  | [], o, _ => ⟨[], ⟨rfl, rfl⟩, fun j u h => by simp at h⟩
  | x :: l, o, h => by
    obtain ⟨cs, hR, hl, hc⟩ := h 0 x rfl
    obtain ⟨news, hn, hnc⟩ := flat_aux (R := R) (w := w) (ad := ad) (sz := sz) l (o + 1) (fun i y hy => by
      obtain ⟨cs, h1, h2, h3⟩ := h (i + 1) y (by simpa using hy)
      exact ⟨cs, h1, h2, fun j u hu => by rw [show o + 1 + i = o + (i + 1) by omega]; exact h3 j u hu⟩)
    refine ⟨cs ++ news, ⟨[], [], cs, news, rfl, rfl, hR, hn⟩, fun j u hu => ?_⟩
    rcases Nat.lt_or_ge j sz with hj | hj
    · rw [List.getElem?_append_left (by omega)] at hu
      exact hc j u hu
    · rw [List.getElem?_append_right (by omega)] at hu
      have := hnc _ u hu
      rw [Nat.succ_mul] at this
      rw [show o * sz + j = o * sz + sz + (j - cs.length) by omega]
      exact this
theorem rd_flat {α : Type} {sz : Nat} {K : World → List Value → α → Prop} {R : List Nat → List Value → α → Prop} {w : World} {ad : Addr} {n c : Nat} {l : List α} (h : rdRow sz K w (.slice (some ad) n c) l)
    (hK : ∀ cs x, K w cs x → R [] cs x ∧ cs.length = sz) : ∃ news, owEl R [] news l ∧ ∀ j u, news[j]? = some u → w.cell? (ad.add j) = some u := by
  obtain ⟨A, c', e, _, _, _, h3⟩ := h
  obtain ⟨news, h1, h2⟩ := flat_aux (R := R) (w := w) (ad := ad) (sz := sz) l 0 (fun i x hx => by
    obtain ⟨ad', cs, e2, hk, hc⟩ := h3 i x hx
    subst e2
    injection e with e1 _ _
    injection e1 with e1
    subst e1
    obtain ⟨r1, r2⟩ := hK cs x hk
    exact ⟨cs, r1, r2, fun j u hu => by rw [Nat.zero_add]; exact hc j u hu⟩)
  exact ⟨news, h1, fun j u hu => by have := h2 j u hu; rwa [Nat.zero_mul, Nat.zero_add] at this⟩

def RetRow {α : Type} (R : World → List Nat → Value → α → Prop) (x : α) (w : World) (e : Ending) (w' : World) : Prop := ∃ v D, e = .returned v ∧ R w' D v x ∧ New w w' D ∧ Below w.heap.size w w'
/-- Behind append onto an empty literal. -/
theorem row_of_append {α : Type} {e sz : Nat} {R : World → List Nat → List Value → α → Prop} {w w' : World} {v : Value} {l : List α} {news : List Value} (hR : ∀ w w', (fun D cs x => R w D cs x) = (fun D cs x => R w' D cs x))
    (hel : owEl (R w) [] news l) (ho : w'.ownsRow 0 e sz v l.length news) (hg : (w.alloc (.cells #[] e)).grownBy w' (some w.heap.size)) (hat : v.ownBlock = some w.heap.size ∨ v.ownBlock = some (w.heap.size + 1)) :
    ∃ D, owRow e sz R w' D v l ∧ New w w' D ∧ Below w.heap.size w w' := by
  have hs := hg.size
  simp at hs
  refine ⟨v.ownBlock.toList, ⟨news, [], ho, by simp, by have := hR w w'; exact cast (by rw [show R w = R w' from this]) hel⟩, ?_, (below_alloc (Below.refl _ w) _).grown hg (by simp) (fun k hk => by injection hk with hk; omega)⟩
  rcases hat with h | h
  · rw [h]; exact ⟨by simp, fun b hb => by simp at hb; subst hb; exact ⟨Nat.le_refl _, by omega⟩⟩
  · rw [h]
    have := (ho.lt _ h).2
    exact ⟨by simp, fun b hb => by simp at hb; subst hb; exact ⟨by omega, this⟩⟩
set_option maxHeartbeats 2000000 in
set_option maxRecDepth 100000 in
theorem copyRegs_calls (w : World) (v : Value) (l : List Reg) (h : rdRegs w v l) (hl : l.length ≤ 4000000) : Calls Try.prog 126 #[v] w (RetRow owRegs l w) := by
  obtain ⟨i0, hi, hz0, hz1, hz2⟩ := info_parts (show (Try.prog.info? 136).map (fun i => (i.zero, i.size, i.bytes)) = some (some (.agg #[.int .i64 0, .int .i64 0, .int .i64 0]), 3, 24) by kernel_rfl)
  rcases rd_form h with ⟨rfl, rfl⟩ | ⟨ad, c, rfl⟩
  · clear h
    go_enter Try.func126, Try.ntmps126
    go_wp2_with (at_builtin; refine wpList_append_own_none _ rfl _ _ 56 rfl 0 136 i0 3 Try.underlying56 hi (.slice (some ⟨w.heap.size, 0, none⟩) 0 0) 0 [] rfl (World.ownsRow_made w #[] 0 (Nat.zero_le _) (Nat.zero_le _) rfl) rfl ?_)
    go_ret
    exact ⟨_, [w.heap.size], rfl, ⟨[], [], World.ownsRow_made w #[] 0 (Nat.zero_le _) (Nat.zero_le _) rfl, rfl, rfl, rfl⟩, ⟨by simp, by simp⟩, below_alloc (Below.refl _ _) _⟩
  · obtain ⟨news, hel, hnews⟩ := rd_flat (R := owReg w) h (fun cs x hk => ⟨⟨rfl, hk⟩, by rw [hk]; rfl⟩)
    have hlen := owEl_len (fun hR => ow_reg.len hR) hel
    have hone := owEl_ones (fun hR => ow_reg.one hR) hel
    have HEL := Aside.mk hel
    have hnews2 : ∀ j u, news[j]? = some u → (w.alloc (.cells #[] 136)).cell? (ad.add j) = some u := fun j u hu => cell_b ((Below.refl _ w).alloc (Nat.le_refl _) _) (hnews j u hu)
    have HL := Aside.mk hlen
    have HO1 := Aside.mk hone
    have HN := Aside.mk hnews2
    clear h hel hnews hnews2 hlen hone
    go_enter Try.func126, Try.ntmps126
    go_wp2_with (at_builtin; refine wpList_append_own_at _ rfl _ _ 56 rfl 0 136 i0 (.agg #[.int .i64 0, .int .i64 0, .int .i64 0]) 3 24 Try.underlying56 hi hz0 hz1 hz2 rfl (by decide) (.slice (some ⟨w.heap.size, 0, none⟩) 0 0) 0 [] rfl (World.ownsRow_made w #[] 0 (Nat.zero_le _) (Nat.zero_le _) rfl) ad l.length c news rfl HL.out HN.out HO1.out (by unfold maxLen; omega) (by omega) (Nat.zero_le _) ?_; intro v' w' hown hgrow hnil hat; simp only [Nat.zero_add, List.nil_append] at hown; have HW := Aside.mk hown; have HG := Aside.mk hgrow; have HA := Aside.mk hat; clear hown hgrow hnil hat)
    go_ret
    obtain ⟨D, k1, k2, k3⟩ := row_of_append (R := owReg) (fun _ _ => rfl) HEL.out HW.out HG.out (HA.out.imp id (fun h => by simpa using h))
    exact ⟨v', D, rfl, k1, k2, k3⟩
set_option maxHeartbeats 2000000 in
set_option maxRecDepth 100000 in
theorem l04Copy_calls (w : World) (v : Value) (l : List Reg) (h : rdRegs w v l) (hl : l.length ≤ 4000000) : Calls Try.prog 131 #[v] w (RetRow owRegs l w) := by
  obtain ⟨i0, hi, hz0, hz1, hz2⟩ := info_parts (show (Try.prog.info? 136).map (fun i => (i.zero, i.size, i.bytes)) = some (some (.agg #[.int .i64 0, .int .i64 0, .int .i64 0]), 3, 24) by kernel_rfl)
  rcases rd_form h with ⟨rfl, rfl⟩ | ⟨ad, c, rfl⟩
  · clear h
    go_enter Try.func131, Try.ntmps131
    go_wp2_with (at_builtin; refine wpList_append_own_none _ rfl _ _ 56 rfl 0 136 i0 3 Try.underlying56 hi (.slice (some ⟨w.heap.size, 0, none⟩) 0 0) 0 [] rfl (World.ownsRow_made w #[] 0 (Nat.zero_le _) (Nat.zero_le _) rfl) rfl ?_)
    go_ret
    exact ⟨_, [w.heap.size], rfl, ⟨[], [], World.ownsRow_made w #[] 0 (Nat.zero_le _) (Nat.zero_le _) rfl, rfl, rfl, rfl⟩, ⟨by simp, by simp⟩, below_alloc (Below.refl _ _) _⟩
  · obtain ⟨news, hel, hnews⟩ := rd_flat (R := owReg w) h (fun cs x hk => ⟨⟨rfl, hk⟩, by rw [hk]; rfl⟩)
    have hlen := owEl_len (fun hR => ow_reg.len hR) hel
    have hone := owEl_ones (fun hR => ow_reg.one hR) hel
    have HEL := Aside.mk hel
    have hnews2 : ∀ j u, news[j]? = some u → (w.alloc (.cells #[] 136)).cell? (ad.add j) = some u := fun j u hu => cell_b ((Below.refl _ w).alloc (Nat.le_refl _) _) (hnews j u hu)
    have HL := Aside.mk hlen
    have HO1 := Aside.mk hone
    have HN := Aside.mk hnews2
    clear h hel hnews hnews2 hlen hone
    go_enter Try.func131, Try.ntmps131
    go_wp2_with (at_builtin; refine wpList_append_own_at _ rfl _ _ 56 rfl 0 136 i0 (.agg #[.int .i64 0, .int .i64 0, .int .i64 0]) 3 24 Try.underlying56 hi hz0 hz1 hz2 rfl (by decide) (.slice (some ⟨w.heap.size, 0, none⟩) 0 0) 0 [] rfl (World.ownsRow_made w #[] 0 (Nat.zero_le _) (Nat.zero_le _) rfl) ad l.length c news rfl HL.out HN.out HO1.out (by unfold maxLen; omega) (by omega) (Nat.zero_le _) ?_; intro v' w' hown hgrow hnil hat; simp only [Nat.zero_add, List.nil_append] at hown; have HW := Aside.mk hown; have HG := Aside.mk hgrow; have HA := Aside.mk hat; clear hown hgrow hnil hat)
    go_ret
    obtain ⟨D, k1, k2, k3⟩ := row_of_append (R := owReg) (fun _ _ => rfl) HEL.out HW.out HG.out (HA.out.imp id (fun h => by simpa using h))
    exact ⟨v', D, rfl, k1, k2, k3⟩
set_option maxHeartbeats 2000000 in
set_option maxRecDepth 100000 in
theorem copyInts_calls (w : World) (v : Value) (l : List Int) (h : rdInts w v l) (hl : l.length ≤ 4000000) : Calls Try.prog 152 #[v] w (RetRow owInts l w) := by
  obtain ⟨i0, hi, hz0, hz1, hz2⟩ := info_parts (show (Try.prog.info? 3).map (fun i => (i.zero, i.size, i.bytes)) = some (some (.int .i64 0), 1, 8) by kernel_rfl)
  rcases rd_form h with ⟨rfl, rfl⟩ | ⟨ad, c, rfl⟩
  · clear h
    go_enter Try.func152, Try.ntmps152
    go_wp2_with (at_builtin; refine wpList_append_own_none _ rfl _ _ 25 rfl 0 3 i0 1 Try.underlying25 hi (.slice (some ⟨w.heap.size, 0, none⟩) 0 0) 0 [] rfl (World.ownsRow_made w #[] 0 (Nat.zero_le _) (Nat.zero_le _) rfl) rfl ?_)
    go_ret
    exact ⟨_, [w.heap.size], rfl, ⟨[], [], World.ownsRow_made w #[] 0 (Nat.zero_le _) (Nat.zero_le _) rfl, rfl, rfl, rfl⟩, ⟨by simp, by simp⟩, below_alloc (Below.refl _ _) _⟩
  · obtain ⟨news, hel, hnews⟩ := rd_flat (R := owInt w) h (fun cs x hk => ⟨⟨rfl, hk⟩, by rw [hk]; rfl⟩)
    have hlen := owEl_len (fun hR => ow_int.len hR) hel
    have hone := owEl_ones (fun hR => ow_int.one hR) hel
    have HEL := Aside.mk hel
    have hnews2 : ∀ j u, news[j]? = some u → (w.alloc (.cells #[] 3)).cell? (ad.add j) = some u := fun j u hu => cell_b ((Below.refl _ w).alloc (Nat.le_refl _) _) (hnews j u hu)
    have HL := Aside.mk hlen
    have HO1 := Aside.mk hone
    have HN := Aside.mk hnews2
    clear h hel hnews hnews2 hlen hone
    go_enter Try.func152, Try.ntmps152
    go_wp2_with (at_builtin; refine wpList_append_own_at _ rfl _ _ 25 rfl 0 3 i0 (.int .i64 0) 1 8 Try.underlying25 hi hz0 hz1 hz2 rfl (by decide) (.slice (some ⟨w.heap.size, 0, none⟩) 0 0) 0 [] rfl (World.ownsRow_made w #[] 0 (Nat.zero_le _) (Nat.zero_le _) rfl) ad l.length c news rfl HL.out HN.out HO1.out (by unfold maxLen; omega) (by omega) (Nat.zero_le _) ?_; intro v' w' hown hgrow hnil hat; simp only [Nat.zero_add, List.nil_append] at hown; have HW := Aside.mk hown; have HG := Aside.mk hgrow; have HA := Aside.mk hat; clear hown hgrow hnil hat)
    go_ret
    obtain ⟨D, k1, k2, k3⟩ := row_of_append (R := owInt) (fun _ _ => rfl) HEL.out HW.out HG.out (HA.out.imp id (fun h => by simpa using h))
    exact ⟨v', D, rfl, k1, k2, k3⟩
end Go.Proofs.Ytjfjpabfkembcaa.H
