/- One element more on a row that a call owns: append, at a step of a region that draws and in a plain region, in the words of owned rows. -/
import Derived.Test.YtjfjpabfkembcaaHOwn2
import Derived.Test.YtjfjpabfkembcaaHCopyBox
namespace Go.Proofs.Ytjfjpabfkembcaa.H
open Go.RowKit
set_option linter.unusedVariables false
/-- What is to be known of a slice type and its elements. -/
def El (t e : TypeId) (sz by_ : Nat) : Prop := ∃ i z, Try.prog.underlying t = some (.slice e) ∧ Try.prog.info? e = some i ∧ i.zero = some z ∧ i.size = sz ∧ i.bytes = by_ ∧ z.cells.size = sz ∧ 0 < sz
theorem el_mk {t e sz by_ : Nat} {z : Value} (ht : Try.prog.underlying t = some (.slice e)) (h : (Try.prog.info? e).map (fun i => (i.zero, i.size, i.bytes)) = some (some z, sz, by_)) (hz : z.cells.size = sz) (hs : 0 < sz) : El t e sz by_ := by
  obtain ⟨i, h1, h2, h3, h4⟩ := info_parts h
  exact ⟨i, z, ht, h1, h2, h3, h4, hz, hs⟩
theorem el_int : El 25 3 1 8 := el_mk (z := .int .i64 0) Try.underlying25 (by kernel_rfl) rfl (by decide)
theorem el_reg : El 56 136 3 24 := el_mk (z := .agg #[.int .i64 0, .int .i64 0, .int .i64 0]) Try.underlying56 (by kernel_rfl) rfl (by decide)
theorem el_mail : El 30 58 4 56 := el_mk (z := .agg #[.int .i64 0, .int .i64 0, .slice none 0 0, .string ⟨#[]⟩]) Try.underlying30 (by kernel_rfl) rfl (by decide)
theorem el_box : El 43 32 7 96 := el_mk (z := .agg #[.int .i64 0, .string ⟨#[]⟩, .int .i64 0, .int .i64 0, .int .i64 0, .slice none 0 0, .slice none 0 0]) Try.underlying43 (by kernel_rfl) rfl (by decide)
theorem grown_keep {w w' : World} {row : Option Nat} {D : List Nat} (h : w.grownBy w' row) (hd : ∀ b, row = some b → b ∈ D) : Keep D w w' :=
  ⟨h.os, h.tape, h.output, h.size, fun k hk hn => h.block k hk fun e => hn (hd k e.symm)⟩
section
variable {α : Type} {e t sz by_ : Nat} {R : World → List Nat → List Value → α → Prop} {Kr : World → List Value → α → Prop} {w0 w : World} {D Dx : List Nat} {v : Value} {l : List α} {cs : List Value} {y : α}
/-- Behind it: the row with one element more, which blocks it lies in, and that nothing but the row's own blocks has changed. -/
theorem step_snoc {ops : Array Oper} {o : Oper} {a : Act} {K : Act → World → Prop} {Q : Exit → Act → World → Prop} {E : Prop} (el : El t e sz by_) (ow : Ow sz R Kr) (hown : owRow e sz R w D v l) (hx : R w Dx cs y) (hn : New w0 w (D ++ Dx)) (hw0 : w0.heap.size ≤ w.heap.size)
    (s x : Operand) (hgd : o.guard = none) (ho : o.op = .call { callee := .builtin .append, args := #[s, x], argTypes := #[t, t] }) (hs : a.eval s = v)
    (B : Nat) (hev : a.eval x = .slice (some ⟨B, 0, none⟩) 1 1) {e' : TypeId} (hB : Loc w B cs.toArray e') (hm : (l.length + 1) * by_ ≤ 140737488355328) (hm2 : l.length + 1 ≤ 4000000000) (H : Nat) (hH : w.heap.size = H)
    (h : ∀ g cap w' D', owRow e sz R w' D' (.slice (some ⟨g, 0, none⟩) (l.length + 1) cap) (l ++ [y]) → New w0 w' D' → (∀ b ∈ D', b ∈ D ++ Dx ∨ b = H) → Keep D w w' → K (a.put o.dst (.slice (some ⟨g, 0, none⟩) (l.length + 1) cap)) w') :
    if Region.wanted o (yielded ops a.tmps) = true then Oper.wp Try.prog o a w K Q else E := by
  obtain ⟨i, z, ht, hi, hz, hz1, hz2, hz3, hsz⟩ := el
  have hin := fun k hk => own_in hown (k := k) hk
  obtain ⟨xs, h1, F⟩ := owRow_snoc' ow hown hx hn hw0
  refine step_append_lies w hgd s x t ho 0 e i z sz by_ ht hi hz hz1 hz2 hz3 hsz v l.length xs hs h1 ⟨B, 0, none⟩ 1 1 cs hev (by rw [ow.len hx]; omega) (World.news_of_block hB) (ow.one hx) (by decide) (by unfold maxLen; omega) hm (Nat.zero_le _) H hH fun g cap w' ho' hg hat hlt => ?_
  obtain ⟨D', k1, k2, k3⟩ := F _ _ ho' hg (hat.imp (fun h => h.symm) (fun h => by rw [h, hH]; rfl))
  exact h g cap w' D' k1 k2 (fun b hb => by rw [← hH]; exact k3 b hb) (grown_keep hg hin)
theorem list_snoc {ops : Array Oper} {rest : List Oper} {o : Oper} {a : Act} {Q : Exit → Act → World → Prop} (el : El t e sz by_) (ow : Ow sz R Kr) (hown : owRow e sz R w D v l) (hx : R w Dx cs y) (hn : New w0 w (D ++ Dx)) (hw0 : w0.heap.size ≤ w.heap.size)
    (s x : Operand) (hgd : o.guard = none) (ho : o.op = .call { callee := .builtin .append, args := #[s, x], argTypes := #[t, t] }) (hs : a.eval s = v)
    (B : Nat) (hev : a.eval x = .slice (some ⟨B, 0, none⟩) 1 1) {e' : TypeId} (hB : Loc w B cs.toArray e') (hm : (l.length + 1) * by_ ≤ 140737488355328) (hm2 : l.length + 1 ≤ 4000000000) (H : Nat) (hH : w.heap.size = H)
    (h : ∀ g cap w' D', owRow e sz R w' D' (.slice (some ⟨g, 0, none⟩) (l.length + 1) cap) (l ++ [y]) → New w0 w' D' → (∀ b ∈ D', b ∈ D ++ Dx ∨ b = H) → Keep D w w' → wpList Try.prog ops Q rest (a.put o.dst (.slice (some ⟨g, 0, none⟩) (l.length + 1) cap)) w') :
    wpList Try.prog ops Q (o :: rest) a w := by
  obtain ⟨i, z, ht, hi, hz, hz1, hz2, hz3, hsz⟩ := el
  have hin := fun k hk => own_in hown (k := k) hk
  obtain ⟨xs, h1, F⟩ := owRow_snoc' ow hown hx hn hw0
  refine wpList_append_lies w hgd s x t ho 0 e i z sz by_ ht hi hz hz1 hz2 hz3 hsz v l.length xs hs h1 ⟨B, 0, none⟩ 1 1 cs hev (by rw [ow.len hx]; omega) (World.news_of_block hB) (ow.one hx) (by decide) (by unfold maxLen; omega) hm (Nat.zero_le _) H hH fun g cap w' ho' hg hat hlt => ?_
  obtain ⟨D', k1, k2, k3⟩ := F _ _ ho' hg (hat.imp (fun h => h.symm) (fun h => by rw [h, hH]; rfl))
  exact h g cap w' D' k1 k2 (fun b hb => by rw [← hH]; exact k3 b hb) (grown_keep hg hin)
end
/-- An empty literal. -/
theorem owRow_lit0 {α : Type} {e sz : Nat} {R : World → List Nat → List Value → α → Prop} (w : World) (g : Nat) (hg : g = w.heap.size) : owRow e sz R (w.alloc (.cells #[] e)) [g] (.slice (some ⟨g, 0, none⟩) 0 0) ([] : List α) :=
  ⟨[], [], own_lit0 _ _ _ _ hg, by simp [Value.ownBlock], rfl, rfl⟩
theorem new_lit0 (w0 w : World) (g : Nat) (o : Obj) (hg : g = w.heap.size) (hs : w0.heap.size ≤ w.heap.size) : New w0 (w.alloc o) [g] := ⟨by simp, fun b hb => by simp at hb; subst hb hg; simp; omega⟩
end Go.Proofs.Ytjfjpabfkembcaa.H
