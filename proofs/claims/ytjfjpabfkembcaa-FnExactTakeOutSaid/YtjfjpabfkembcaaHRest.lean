/- The elements of a row but one; several elements appended at a step of a region that draws. -/
import Derived.Test.YtjfjpabfkembcaaHCut
import Derived.Test.YtjfjpabfkembcaaHSnoc
import Derived.Maps.AppendAt
namespace Go.Proofs.Ytjfjpabfkembcaa.H
open Go.RowKit
set_option linter.unusedVariables false
theorem owRow_rest {α : Type} {e sz : Nat} {R : World → List Nat → List Value → α → Prop} {K : World → List Value → α → Prop} (o : Ow sz R K) {w : World} {D : List Nat} {v : Value} {l : List α} (h : owRow e sz R w D v l) (hN : D.Nodup)
    (i : Nat) (hi : i < l.length) :
    ∃ (g c : Nat) (xs : List Value) (Dr : List Nat), v = .slice (some ⟨g, 0, none⟩) l.length c ∧ g ∈ D ∧ l.length ≤ c ∧ c ≤ maxLen ∧ xs.length = l.length * sz ∧ (∀ u ∈ xs, u.oneCell' = true) ∧ (∀ j u, xs[j]? = some u → w.cell? ⟨g, j, none⟩ = some u) ∧
      owEl (R w) Dr (xs.take (i * sz) ++ xs.drop ((i + 1) * sz)) (l.eraseIdx i) ∧ Dr.Nodup ∧ ∀ b ∈ Dr, b ∈ D ∧ b ≠ g := by
  obtain ⟨xs, Dr, h1, hD, h3⟩ := h
  have hone := owEl_ones (fun hR => o.one hR) h3
  obtain ⟨Da, Di, Db, xa, xi, xb, e1, e2, e3, e4, e5, e6, e7⟩ := owEl_split (fun hR => o.len hR) i hi h3
  rcases h1.2 with ⟨_, hn⟩ | ⟨g, cap, cur, hv, hb0, hh, hnc, hm, hs, ht⟩
  · omega
  have hob : v.ownBlock = some g := by rw [hv]; rfl
  have hDD : D = g :: (Da ++ (Di ++ Db)) := by rw [hD, hob, e1]; rfl
  have hND := hN
  rw [hDD] at hND
  simp only [List.nodup_cons, List.nodup_append, List.mem_append, not_or] at hND
  obtain ⟨⟨ga, gi, gb⟩, na, ⟨ni, nb, dib⟩, dai⟩ := hND
  have hcell : ∀ j u, xs[j]? = some u → w.cell? ⟨g, j, none⟩ = some u := fun j u hu => by
    have := h1.cells (g := g) hob j u hu
    rw [add_zero_] at this
    exact this
  have hcutl : xs.take (i * sz) ++ xs.drop ((i + 1) * sz) = xa ++ xb := by
    have h2 : (i + 1) * sz = (xa ++ xi).length := by rw [List.length_append, e3, e4, Nat.succ_mul]
    rw [e2, ← e3, List.take_left, h2, ← List.append_assoc, List.drop_left]
  refine ⟨g, cap, xs, Da ++ Db, hv, by rw [hDD]; simp, hnc, hm, h1.1, hone, hcell, ?_, ?_, fun b hb => ?_⟩
  · rw [hcutl, List.eraseIdx_eq_take_drop_succ]
    exact owEl_append e5 e7
  · simp only [List.nodup_append]
    exact ⟨na, nb, fun a ha b hb hab => dai a ha b (.inr hb) hab⟩
  · rw [List.mem_append] at hb
    rcases hb with h | h
    · exact ⟨by rw [hDD]; simp [h], fun e => ga (e ▸ h)⟩
    · exact ⟨by rw [hDD]; simp [h], fun e => gb (e ▸ h)⟩
theorem own_shape {w : World} {base e size n : Nat} {v : Value} {xs : List Value} (h : w.ownsRow base e size v n xs) : ∃ A c, v = .slice A n c := by
  rcases h.2 with ⟨h1, h2⟩ | ⟨g, cap, cur, hv, _⟩
  · exact ⟨none, 0, by rw [h1, h2]⟩
  · exact ⟨_, cap, hv⟩
/-- Elements that lie somewhere (none, too) appended to a row that is owned. -/
theorem step_append_any {e t sz by_ : Nat} {w : World} {ops : Array Oper} {o : Oper} {a : Act} {K : Act → World → Prop} {Q : Exit → Act → World → Prop} {E : Prop} (el : El t e sz by_) (hgd : o.guard = none) (s x : Operand)
    (ho : o.op = .call { callee := .builtin .append, args := #[s, x], argTypes := #[t, t] }) (v : Value) (n : Nat) (xs : List Value) (hs : a.eval s = v) (hown : w.ownsRow 0 e sz v n xs)
    (ad : Addr) (m c : Nat) (news : List Value) (hx : a.eval x = .slice (some ad) m c) (hl : news.length = m * sz) (hnews : ∀ j u, news[j]? = some u → w.cell? (ad.add j) = some u) (h1 : ∀ u ∈ news, u.oneCell' = true)
    (hbytes : (n + m) * by_ ≤ 140737488355328) (k : Nat) (hk : n + m = k) (hk2 : k ≤ 4000000000)
    (h : ∀ A cap w', w'.ownsRow 0 e sz (.slice A k cap) k (xs ++ news) → w.grownBy w' v.ownBlock → ((Value.slice A k cap).ownBlock = v.ownBlock ∨ (Value.slice A k cap).ownBlock = some w.heap.size) → K (a.put o.dst (.slice A k cap)) w') :
    if Region.wanted o (yielded ops a.tmps) = true then Oper.wp Try.prog o a w K Q else E := by
  obtain ⟨i, z, ht, hi, hz, hz1, hz2, hz3, hsz⟩ := el
  subst hk
  have hw : Region.wanted o (yielded ops a.tmps) = true := by simp [Region.wanted, hgd]
  rw [if_pos hw]
  obtain ⟨v', w', hr, h2, h3, _, h5⟩ := run_append_own_at (P := Try.prog) w 0 t o.type e i z sz by_ ht hi hz hz1 hz2 hz3 hsz v n xs hown ad m c news hl hnews h1 (by unfold maxLen; omega) hbytes (Nat.zero_le _)
  obtain ⟨A, cap, rfl⟩ := own_shape h2
  unfold Oper.wp execOp
  simp only [ho, resolve, invoke, builtin, Sem.run_bind, Sem.run_pure, Result.andThen_ok, List.map_toArray, List.map_cons, List.map_nil, hs, hx, hr]
  exact h A cap w' h2 h3 h5
end Go.Proofs.Ytjfjpabfkembcaa.H
