/- Movers of rows that a call owns: one element more, one element changed, a row in a row. No program in it. -/
import Derived.Test.YtjfjpabfkembcaaHBase
namespace Go.Proofs.Ytjfjpabfkembcaa.H
open Go.RowKit
set_option linter.unusedVariables false

theorem ownBlock_lt {w : World} {base : Nat} {e : TypeId} {size n : Nat} {v : Value} {xs : List Value} (h : w.ownsRow base e size v n xs) {k : Nat} (hk : v.ownBlock = some k) : k < w.heap.size := (h.lt k hk).2

theorem add_zero_ (g k : Nat) : (⟨g, 0, none⟩ : Addr).add k = ⟨g, k, none⟩ := by
  unfold Addr.add
  by_cases h0 : k = 0
  · simp [h0]
  · simp [h0]

/-! ### Keep: but for the blocks D, what was there stays -/
structure Keep (D : List Nat) (w w' : World) : Prop where
  os : w'.os = w.os
  tape : w'.tape = w.tape
  output : w'.output = w.output
  size : w.heap.size ≤ w'.heap.size
  block : ∀ k, k < w.heap.size → k ∉ D → w'.heap[k]? = w.heap[k]?
theorem Keep.refl (D : List Nat) (w : World) : Keep D w w := ⟨rfl, rfl, rfl, Nat.le_refl _, fun _ _ _ => rfl⟩
theorem Keep.of_below {D : List Nat} {w w' : World} (h : Below w.heap.size w w') : Keep D w w' := ⟨h.os, h.tape, h.output, h.size, fun k hk _ => h.block k hk⟩
theorem Keep.trans {D : List Nat} {a b c : World} (h : Keep D a b) (k : Keep D b c) : Keep D a c :=
  ⟨k.os.trans h.os, k.tape.trans h.tape, k.output.trans h.output, Nat.le_trans h.size k.size, fun i hi hn => (k.block i (Nat.lt_of_lt_of_le hi h.size) hn).trans (h.block i hi hn)⟩
theorem Keep.mono {D D' : List Nat} {w w' : World} (h : Keep D w w') (hs : ∀ b ∈ D, b ∈ D') : Keep D' w w' := ⟨h.os, h.tape, h.output, h.size, fun k hk hn => h.block k hk fun hb => hn (hs k hb)⟩
theorem Keep.below {D : List Nat} {w0 w w' : World} (h : Keep D w w') (hn : ∀ b ∈ D, w0.heap.size ≤ b) (hs : w0.heap.size ≤ w.heap.size) : Below w0.heap.size w w' :=
  ⟨h.os, h.tape, h.output, h.size, fun k hk => h.block k (by omega) fun hb => by have := hn k hb; omega⟩
theorem Keep.nil {w w' : World} (h : Keep [] w w') : Below w.heap.size w w' := ⟨h.os, h.tape, h.output, h.size, fun k hk => h.block k hk (by simp)⟩
theorem Keep.set {D : List Nat} {w w' : World} (h : Keep D w w') {p : Addr} (hp : p.block ∈ D) (u : Value) : Keep D w (w'.setCell p u) :=
  h.trans ⟨rfl, rfl, rfl, by simp [World.setCell], fun k _ hn => Below.heap_setCell w' p u k fun e => hn (by rw [e]; exact hp)⟩
theorem Keep.alloc {D : List Nat} {w w' : World} (h : Keep D w w') (o : Obj) : Keep D w (w'.alloc o) := h.trans (Keep.of_below ((Below.refl _ _).alloc (Nat.le_refl _) o))
theorem Keep.drewN {D : List Nat} {w w' : World} (h : Keep D w w') (n : Nat) : Keep D w (w'.drewN n) := h.trans ⟨rfl, rfl, rfl, Nat.le_refl _, fun _ _ _ => rfl⟩

/-! ### Seg: block g has changed at most from lo up to hi -/
def Seg (g lo hi : Nat) (w w' : World) : Prop :=
  ∃ cur cur' e, w.heap[g]? = some (.cells cur e (0, 0)) ∧ w'.heap[g]? = some (.cells cur' e (0, 0)) ∧ cur'.size = cur.size ∧ ∀ j, (j < lo ∨ hi ≤ j) → cur'[j]? = cur[j]?
theorem Seg.refl {g lo hi : Nat} {w : World} {cur : Array Value} {e : TypeId} (h : w.heap[g]? = some (.cells cur e (0, 0))) : Seg g lo hi w w := ⟨cur, cur, e, h, h, rfl, fun _ _ => rfl⟩
theorem Seg.keep {g lo hi : Nat} {w w1 w2 : World} (h : Seg g lo hi w w1) (hk : w2.heap[g]? = w1.heap[g]?) : Seg g lo hi w w2 := by
  obtain ⟨cur, cur', e, h1, h2, h3, h4⟩ := h
  exact ⟨cur, cur', e, h1, hk.trans h2, h3, h4⟩
theorem Seg.set {g lo hi : Nat} {w w1 : World} (h : Seg g lo hi w w1) (j : Nat) (hlo : lo ≤ j) (hhi : j < hi) (u : Value) : Seg g lo hi w (w1.setCell ⟨g, j, none⟩ u) := by
  obtain ⟨cur, cur', e, h1, h2, h3, h4⟩ := h
  refine ⟨cur, cur'.setIfInBounds j u, e, h1, heap_setCell_same w1 g j cur' e u h2, by simp [h3], fun q hq => ?_⟩
  rw [Array.getElem?_setIfInBounds_ne (by omega)]
  exact h4 q hq
theorem Seg.cell {g lo hi : Nat} {w w1 : World} (h : Seg g lo hi w w1) (j : Nat) (hj : j < lo ∨ hi ≤ j) : w1.cell? ⟨g, j, none⟩ = w.cell? ⟨g, j, none⟩ := by
  obtain ⟨cur, cur', e, h1, h2, h3, h4⟩ := h
  rw [cell_of_row w1 g j cur' e (0, 0) h2, cell_of_row w g j cur e (0, 0) h1, h4 j hj]

/-- The blocks D are new since w0, and differ. -/
theorem New.mono {w0 w w' : World} {D : List Nat} (h : New w0 w D) (hs : w.heap.size ≤ w'.heap.size) : New w0 w' D := ⟨h.1, fun b hb => ⟨(h.2 b hb).1, by have := (h.2 b hb).2; omega⟩⟩
theorem New.from {w0 w1 w : World} {D : List Nat} (h : New w1 w D) (hs : w0.heap.size ≤ w1.heap.size) : New w0 w D := ⟨h.1, fun b hb => ⟨by have := (h.2 b hb).1; omega, (h.2 b hb).2⟩⟩
theorem New.nil {w0 w : World} : New w0 w [] := ⟨List.nodup_nil, by simp⟩
theorem New.app {w0 w w1 : World} {D D' : List Nat} (h : New w0 w D) (hs : w0.heap.size ≤ w.heap.size) (h' : New w w1 D') (hs' : w.heap.size ≤ w1.heap.size) : New w0 w1 (D ++ D') := by
  refine ⟨List.nodup_append.2 ⟨h.1, h'.1, fun a ha b hb e => ?_⟩, fun b hb => ?_⟩
  · have := (h.2 a ha).2
    have := (h'.2 b hb).1
    omega
  · rw [List.mem_append] at hb
    rcases hb with hb | hb
    · have := h.2 b hb
      omega
    · have := h'.2 b hb
      omega
/-- A row that is new stays as it is while only others are written. -/
theorem owRow_below {α : Type} {e sz s : Nat} {R : World → List Nat → List Value → α → Prop} {K : World → List Value → α → Prop} (o : Ow s R K) {w w' : World} {D : List Nat} {v : Value} {l : List α} (h : owRow e sz R w D v l)
    (hb : Below w.heap.size w w') : owRow e sz R w' D v l := owRow_mov o h fun b hb' => hb.block b (owRow_lt o h b hb')
theorem ow_below {α : Type} {s : Nat} {R : World → List Nat → List Value → α → Prop} {K : World → List Value → α → Prop} (o : Ow s R K) {w w' : World} {D : List Nat} {cs : List Value} {x : α} (h : R w D cs x)
    (hb : Below w.heap.size w w') : R w' D cs x := o.mov h fun b hb' => by
  obtain ⟨cur, e, hh⟩ := o.blk h b hb'
  exact hb.block b (Array.getElem?_eq_some_iff.1 hh).1

/-- One element more (behind append's law). -/
theorem owRow_snoc {α : Type} {e sz : Nat} {R : World → List Nat → List Value → α → Prop} {K : World → List Value → α → Prop} (o : Ow sz R K) {w0 w : World} {D Dx : List Nat} {v : Value} {l : List α} {cs : List Value} {x : α}
    (h : owRow e sz R w D v l) (hx : R w Dx cs x) (hn : New w0 w (D ++ Dx)) (hs : w0.heap.size ≤ w.heap.size) :
    ∃ xs, w.ownsRow 0 e sz v l.length xs ∧ ∀ v' w', w'.ownsRow 0 e sz v' (l.length + 1) (xs ++ cs) → w.grownBy w' v.ownBlock → (v'.ownBlock = v.ownBlock ∨ v'.ownBlock = some w.heap.size) →
      ∃ D', owRow e sz R w' D' v' (l ++ [x]) ∧ New w0 w' D' := by
  obtain ⟨xs, Di, h1, rfl, h3⟩ := h
  refine ⟨xs, h1, fun v' w' ho hg hat => ?_⟩
  have hsame : ∀ b, b ∈ Di ++ Dx → w'.heap[b]? = w.heap[b]? := by
    intro b hb
    refine hg.block b ?_ fun e => ?_
    · refine (hn.2 b ?_).2
      simp at hb ⊢
      rcases hb with hb | hb <;> simp [hb]
    · have hd := hn.1
      rw [← e, List.append_assoc] at hd
      simp only [Option.toList_some, List.nodup_append, List.mem_singleton] at hd
      exact (hd.2.2 b rfl b (by simpa using hb)) rfl
  refine ⟨v'.ownBlock.toList ++ (Di ++ Dx), ⟨xs ++ cs, Di ++ Dx, by rw [List.length_append, List.length_singleton]; exact ho, rfl,
    owEl_append (owEl_imp h3 fun D1 cs' y hs' _ hR => o.mov hR fun b hb => hsame b (by simp [hs' b hb])) (owEl_one (o.mov hx fun b hb => hsame b (by simp [hb])))⟩, ?_⟩
  have hsz := hg.size
  rcases hat with hat | hat
  · rw [hat, ← List.append_assoc]
    exact hn.mono hsz
  · rw [hat]
    have hn2 : New w0 w (Di ++ Dx) := ⟨by have := hn.1; rw [List.append_assoc, List.nodup_append] at this; exact this.2.1, fun b hb => hn.2 b (by rw [List.append_assoc]; simp only [List.mem_append] at hb ⊢; exact .inr hb)⟩
    have hlt := (ho.lt _ hat).2
    refine ⟨?_, fun b hb => ?_⟩
    · simp only [Option.toList_some, List.singleton_append, List.nodup_cons]
      exact ⟨fun hb => by have := (hn2.2 _ hb).2; omega, hn2.1⟩
    · simp only [Option.toList_some, List.singleton_append, List.mem_cons] at hb
      rcases hb with rfl | hb
      · exact ⟨hs, hlt⟩
      · have := hn2.2 b hb
        omega

/-- One element of a row, and the row with another element in its place. -/
theorem owRow_focus {α : Type} {e sz : Nat} {R : World → List Nat → List Value → α → Prop} {K : World → List Value → α → Prop} (o : Ow sz R K) {w : World} {D : List Nat} {v : Value} {l : List α} (h : owRow e sz R w D v l) (hN : D.Nodup)
    (i : Nat) (hi : i < l.length) (hsz : 0 < sz) :
    ∃ g c Di xi, v = .slice (some ⟨g, 0, none⟩) l.length c ∧ g ∈ D ∧ g ∉ Di ∧ (∀ b ∈ Di, b ∈ D) ∧ Di.Nodup ∧ R w Di xi l[i] ∧ (∀ j u, xi[j]? = some u → w.cell? ⟨g, i * sz + j, none⟩ = some u) ∧ (∀ j, w.frozen? ⟨g, j, none⟩ = false) ∧
      (∃ cur, w.heap[g]? = some (.cells cur e (0, 0))) ∧
      ∀ w' Di' xi' x', (∀ b ∈ D, b ≠ g → b ∉ Di → w'.heap[b]? = w.heap[b]?) → Seg g (i * sz) (i * sz + sz) w w' → (∀ j u, xi'[j]? = some u → w'.cell? ⟨g, i * sz + j, none⟩ = some u) → R w' Di' xi' x' →
        Di'.Nodup → (∀ b ∈ Di', b ∈ Di ∨ b ∉ D) → ∃ D', owRow e sz R w' D' v (l.set i x') ∧ D'.Nodup ∧ ∀ b ∈ D', b ∈ D ∨ b ∈ Di' := by
  obtain ⟨xs, Dr, h1, hD, h3⟩ := h
  obtain ⟨Da, Di, Db, xa, xi, xb, e1, e2, e3, e4, e5, e6, e7⟩ := owEl_split (fun hR => o.len hR) i hi h3
  rcases h1.2 with ⟨_, hn⟩ | ⟨g, cap, cur, hv, hb0, hh, hnc, hm, hs, ht⟩
  · omega
  have hob : v.ownBlock = some g := by rw [hv]; rfl
  have hDD : D = g :: (Da ++ (Di ++ Db)) := by rw [hD, hob, e1]; rfl
  have hND := hN
  rw [hDD] at hND
  simp only [List.nodup_cons, List.nodup_append, List.mem_append, not_or] at hND
  obtain ⟨⟨ga, gi, gb⟩, na, ⟨ni, nb, dib⟩, dai⟩ := hND
  have hxl : xs.length = l.length * sz := h1.1
  have hil : i * sz + sz ≤ l.length * sz := by rw [← Nat.succ_mul]; exact Nat.mul_le_mul_right _ hi
  refine ⟨g, cap, Di, xi, hv, by rw [hDD]; simp, gi, fun b hb => by rw [hDD]; simp [hb], ni, e6, fun j u hu => ?_, fun j => frozen_of_row w g j cur e hh, ⟨cur, hh⟩, fun w' Di' xi' x' hkeep hseg hcell hR' nd' hout => ?_⟩
  · have := h1.cells (g := g) hob (i * sz + j) u (by rw [e2, List.getElem?_append_right (by omega), e3, show i * sz + j - i * sz = j by omega, List.getElem?_append_left (List.getElem?_eq_some_iff.1 hu).1]; exact hu)
    rw [add_zero_] at this
    exact this
  · have hxi' : xi'.length = sz := o.len hR'
    obtain ⟨c1, c2, e', s1, s2, s3, s4⟩ := hseg
    rw [hh] at s1
    injection s1 with s1
    injection s1 with s1 s1e
    subst s1 s1e
    refine ⟨g :: (Da ++ (Di' ++ Db)), ⟨xa ++ (xi' ++ xb), Da ++ (Di' ++ Db), ⟨?_, .inr ⟨g, cap, c2, by rw [List.length_set]; exact hv, hb0, s2, by rw [List.length_set]; exact hnc, hm, by rw [s3]; exact hs, ?_⟩⟩, by rw [hob]; rfl, ?_⟩, ?_, fun b hb => ?_⟩
    · have := congrArg List.length e2
      simp only [List.length_append, List.length_set] at this ⊢
      omega
    · rw [List.length_set]
      apply List.ext_getElem?
      intro q
      have hq0 : ∀ q : Nat, (cur.toList.take (l.length * sz))[q]? = xs[q]? := fun q => by rw [ht]
      have hlenb : xb.length + (i * sz + sz) = l.length * sz := by
        have := congrArg List.length e2
        simp only [List.length_append] at this
        omega
      by_cases hq : q < l.length * sz
      · rw [List.getElem?_take_of_lt hq, Array.getElem?_toList]
        rcases Nat.lt_or_ge q (i * sz) with ha | ha
        · rw [s4 q (.inl ha), List.getElem?_append_left (by omega), ← Array.getElem?_toList, ← List.getElem?_take_of_lt hq, hq0, e2, List.getElem?_append_left (by omega)]
        · rw [List.getElem?_append_right (by omega), e3]
          rcases Nat.lt_or_ge q (i * sz + sz) with hb | hb
          · rw [List.getElem?_append_left (by omega)]
            have hc := hcell (q - i * sz) _ (List.getElem?_eq_getElem (by omega))
            rw [cell_of_row w' g _ c2 e (0, 0) s2, show i * sz + (q - i * sz) = q by omega] at hc
            rw [hc, List.getElem?_eq_getElem]
          · rw [List.getElem?_append_right (by omega), s4 q (.inr hb), ← Array.getElem?_toList, ← List.getElem?_take_of_lt hq, hq0, e2, List.getElem?_append_right (by omega), List.getElem?_append_right (by omega), e3, e4, hxi']
      · rw [List.getElem?_eq_none (by rw [List.length_take]; omega), List.getElem?_eq_none (by simp only [List.length_append]; omega)]
    · have hset : l.set i x' = l.take i ++ (x' :: l.drop (i + 1)) := by
        apply List.ext_getElem?
        intro q
        rw [List.getElem?_set]
        rcases Nat.lt_trichotomy q i with hq | hq | hq
        · rw [if_neg (by omega), List.getElem?_append_left (by rw [List.length_take]; omega), List.getElem?_take_of_lt hq]
        · subst hq
          rw [if_pos rfl, if_pos hi, List.getElem?_append_right (by rw [List.length_take]; omega)]
          simp [List.length_take, Nat.min_eq_left (Nat.le_of_lt hi)]
        · rw [if_neg (by omega), List.getElem?_append_right (by rw [List.length_take]; omega), List.length_take, Nat.min_eq_left (Nat.le_of_lt hi), show q - i = (q - i - 1) + 1 by omega, List.getElem?_cons_succ, List.getElem?_drop]
          congr 1; omega
      rw [hset]
      have hmv : ∀ {E : List Nat} {ys : List Value} {m : List α}, (∀ b ∈ E, b ∈ D ∧ b ≠ g ∧ b ∉ Di) → owEl (R w) E ys m → owEl (R w') E ys m := fun hE hm => owEl_imp hm fun D1 cs y hs' _ hR => o.mov hR fun b hb => by
        obtain ⟨k1, k2, k3⟩ := hE b (hs' b hb)
        exact hkeep b k1 k2 k3
      refine owEl_append (hmv (fun b hb => ⟨by rw [hDD]; simp [hb], fun h => ga (h ▸ hb), fun h => dai b hb b (.inl h) rfl⟩) e5) ⟨Di', Db, xi', xb, rfl, rfl, hR', hmv (fun b hb => ⟨by rw [hDD]; simp [hb], fun h => gb (h ▸ hb), fun h => dib b h b hb rfl⟩) e7⟩
    · have hnot : ∀ b ∈ Di', b ∉ Da ∧ b ∉ Db ∧ b ≠ g := fun b hb => by
        rcases hout b hb with h | h
        · exact ⟨fun k => dai b k b (.inl h) rfl, fun k => dib b h b k rfl, fun k => gi (k ▸ h)⟩
        · rw [hDD] at h
          simp only [List.mem_cons, List.mem_append, not_or] at h
          exact ⟨h.2.1, h.2.2.2, h.1⟩
      simp only [List.nodup_cons, List.nodup_append, List.mem_append, not_or]
      exact ⟨⟨ga, fun h => (hnot g h).2.2 rfl, gb⟩, na, ⟨nd', nb, fun a ha b hb hab => (hnot a ha).2.1 (hab ▸ hb)⟩, fun a ha b hb hab => by
        rcases hb with hb | hb
        · exact (hnot b hb).1 (hab ▸ ha)
        · exact dai a ha b (.inr hb) hab⟩
    · rw [hDD]
      simp only [List.mem_cons, List.mem_append] at hb ⊢
      rcases hb with h | h | h | h
      · exact .inl (.inl h)
      · exact .inl (.inr (.inl h))
      · exact .inr h
      · exact .inl (.inr (.inr (.inr h)))

theorem owRow_far {α : Type} {e sz s : Nat} {R : World → List Nat → List Value → α → Prop} {K : World → List Value → α → Prop} (o : Ow s R K) {w : World} {D : List Nat} {v : Value} {l : List α} (B : Nat) (h : owRow e sz R w D v l)
    (hD : ∀ b ∈ D, B ≤ b) {p : Addr} (hp : p.block < B) (u : Value) : owRow e sz R (w.setCell p u) D v l := owRow_mov o h fun b hb => Below.heap_setCell w p u b (by have := hD b hb; omega)
theorem owRow_set {α : Type} {e sz s : Nat} {R : World → List Nat → List Value → α → Prop} {K : World → List Value → α → Prop} (o : Ow s R K) {w : World} {D : List Nat} {v : Value} {l : List α} (h : owRow e sz R w D v l)
    {p : Addr} (hp : p.block ∉ D) (u : Value) : owRow e sz R (w.setCell p u) D v l := owRow_mov o h fun b hb => Below.heap_setCell w p u b (fun e => hp (e ▸ hb))
theorem owRow_one {α : Type} {e sz : Nat} {R : World → List Nat → List Value → α → Prop} {w : World} {D : List Nat} {v : Value} {l : List α} (h : owRow e sz R w D v l) : v.oneCell' = true := by
  obtain ⟨_, _, h1, _⟩ := h
  exact own_one h1
theorem owRow_alloc {α : Type} {e sz s : Nat} {R : World → List Nat → List Value → α → Prop} {K : World → List Value → α → Prop} (o : Ow s R K) {w : World} {D : List Nat} {v : Value} {l : List α} (h : owRow e sz R w D v l) (ob : Obj) :
    owRow e sz R (w.alloc ob) D v l := owRow_below o h ((Below.refl _ _).alloc (Nat.le_refl _) ob)
theorem New.set {w0 w : World} {D : List Nat} (h : New w0 w D) (p : Addr) (u : Value) : New w0 (w.setCell p u) D := h.mono (by simp [World.setCell])
theorem New.alloc {w0 w : World} {D : List Nat} (h : New w0 w D) (o : Obj) : New w0 (w.alloc o) D := h.mono (by simp)
theorem New.drew {w0 w : World} {D : List Nat} (h : New w0 w D) : New w0 w.drew D := h
/-! ### an element stored whole -/
def sets (w : World) (g : Nat) : Nat → List Value → World
  | _, [] => w
  | o, u :: us => sets (w.setCell ⟨g, o, none⟩ u) g (o + 1) us
theorem sets_size (g : Nat) : ∀ (cs : List Value) (o : Nat) (w : World), (sets w g o cs).heap.size = w.heap.size
  | [], _, _ => rfl
  | u :: us, o, w => by
    show (sets (w.setCell ⟨g, o, none⟩ u) g (o + 1) us).heap.size = _
    rw [sets_size g us]
    simp [World.setCell]
theorem sets_far (g : Nat) : ∀ (cs : List Value) (o : Nat) (w : World) (b : Nat), b ≠ g → (sets w g o cs).heap[b]? = w.heap[b]?
  | [], _, _, _, _ => rfl
  | u :: us, o, w, b, hb => by
    show (sets (w.setCell ⟨g, o, none⟩ u) g (o + 1) us).heap[b]? = _
    rw [sets_far g us _ _ b hb]
    exact Below.heap_setCell w _ u b hb
theorem sets_seg (g lo hi : Nat) : ∀ (cs : List Value) (o : Nat) (w w1 : World), Seg g lo hi w w1 → lo ≤ o → o + cs.length ≤ hi → Seg g lo hi w (sets w1 g o cs)
  | [], _, _, _, h, _, _ => h
  | u :: us, o, w, w1, h, hl, hh => sets_seg g lo hi us (o + 1) w _ (h.set o hl (by simp at hh; omega) u) (by omega) (by simp at hh; omega)
theorem sets_cell_lt (g : Nat) : ∀ (cs : List Value) (o : Nat) (w : World) (q : Nat), q < o → (sets w g o cs).cell? ⟨g, q, none⟩ = w.cell? ⟨g, q, none⟩
  | [], _, _, _, _ => rfl
  | u :: us, o, w, q, hq => by
    show (sets (w.setCell ⟨g, o, none⟩ u) g (o + 1) us).cell? _ = _
    rw [sets_cell_lt g us _ _ q (by omega)]
    exact World.cell?_setCell_other w _ _ u (by intro e; injection e with _ e; omega)
theorem sets_cell (g : Nat) : ∀ (cs : List Value) (o : Nat) (w : World), (∀ j, j < cs.length → ∃ u, w.cell? ⟨g, o + j, none⟩ = some u) → ∀ j u, cs[j]? = some u → (sets w g o cs).cell? ⟨g, o + j, none⟩ = some u
  | [], _, _, _, j, u, h => by simp at h
  | x :: us, o, w, hc, j, u, h => by
    show (sets (w.setCell ⟨g, o, none⟩ x) g (o + 1) us).cell? _ = _
    cases j with
    | zero =>
      show (sets (w.setCell ⟨g, o, none⟩ x) g (o + 1) us).cell? ⟨g, o, none⟩ = some u
      rw [sets_cell_lt g us _ _ o (by omega)]
      obtain ⟨y, hy⟩ := hc 0 (by simp)
      replace hy : w.cell? ⟨g, o, none⟩ = some y := hy
      have : x = u := by simpa using h
      subst this
      exact World.cell?_setCell_same w _ x hy
    | succ j =>
      rw [show o + (j + 1) = o + 1 + j by omega]
      refine sets_cell g us (o + 1) _ (fun q hq => ?_) j u (by simpa using h)
      obtain ⟨y, hy⟩ := hc (q + 1) (by simp; omega)
      refine ⟨y, ?_⟩
      rw [World.cell?_setCell_other w _ _ x (by intro e; injection e with _ e; omega), show o + 1 + q = o + (q + 1) by omega]
      exact hy
theorem sets_keep (g : Nat) : ∀ (cs : List Value) (o : Nat) (w : World), Keep [g] w (sets w g o cs)
  | [], _, _ => Keep.refl _ _
  | u :: us, o, w => ((Keep.refl [g] w).set (p := ⟨g, o, none⟩) (by simp) u).trans (sets_keep g us (o + 1) _)

theorem owRow_put {α : Type} {e sz : Nat} {R : World → List Nat → List Value → α → Prop} {K : World → List Value → α → Prop} (o : Ow sz R K) {w0 w : World} {D : List Nat} {v : Value} {l : List α} (h : owRow e sz R w D v l) (hn : New w0 w D)
    (i : Nat) (hi : i < l.length) (hsz : 0 < sz) (hs : w0.heap.size ≤ w.heap.size) :
    ∃ g c, v = .slice (some ⟨g, 0, none⟩) l.length c ∧ w0.heap.size ≤ g ∧ g < w.heap.size ∧ (∀ j, j < sz → ∃ u, w.cell? ⟨g, i * sz + j, none⟩ = some u) ∧ (∀ j, w.frozen? ⟨g, j, none⟩ = false) ∧
      ∀ w1 Dx cs x, Below w.heap.size w w1 → R w1 Dx cs x → New w w1 Dx → ∃ D', owRow e sz R (sets w1 g (i * sz) cs) D' v (l.set i x) ∧ New w0 (sets w1 g (i * sz) cs) D' := by
  obtain ⟨g, c, Di, xi, hv, hgD, hgi, hDi, hnd, hRi, hcell, hfr, ⟨cur, hcur⟩, F⟩ := owRow_focus o h hn.1 i hi hsz
  have hg := hn.2 g hgD
  have hxi := o.len hRi
  refine ⟨g, c, hv, hg.1, hg.2, fun j hj => ⟨_, hcell j _ (List.getElem?_eq_getElem (by omega))⟩, hfr, fun w1 Dx cs x hb hR hN => ?_⟩
  have hcs := o.len hR
  have hgx : g ∉ Dx := fun k => by have := (hN.2 g k).1; omega
  have hseg : Seg g (i * sz) (i * sz + sz) w w1 := (Seg.refl hcur).keep (hb.block g hg.2)
  obtain ⟨D', k1, k2, k3⟩ := F (sets w1 g (i * sz) cs) Dx cs x (fun b hbD hbg _ => (sets_far g cs _ w1 b hbg).trans (hb.block b (hn.2 b hbD).2)) (sets_seg g _ _ cs _ w w1 hseg (Nat.le_refl _) (by omega))
    (sets_cell g cs _ w1 (fun j hj => ⟨_, (hb.cell (p := ⟨g, i * sz + j, none⟩) hg.2).trans (hcell j _ (List.getElem?_eq_getElem (by omega)))⟩)) (o.mov hR fun b hbx => sets_far g cs _ w1 b (fun e => hgx (e ▸ hbx))) hN.1
    (fun b hbx => .inr fun hbD => by have := (hN.2 b hbx).1; have := (hn.2 b hbD).2; omega)
  refine ⟨D', k1, k2, fun b hb' => ?_⟩
  rw [sets_size]
  have hsz1 := hb.size
  rcases k3 b hb' with h1 | h1
  · have := hn.2 b h1
    omega
  · have := hN.2 b h1
    omega
end Go.Proofs.Ytjfjpabfkembcaa.H
