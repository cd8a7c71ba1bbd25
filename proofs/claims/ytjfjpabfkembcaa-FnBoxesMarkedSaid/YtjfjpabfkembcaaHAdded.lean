/- A number put into a list that is then sorted and freed of doubles (impl.added): the walk, over the library's sort and compact. -/
import Derived.Test.YtjfjpabfkembcaaHCopy
import Derived.Test.YtjfjpabfkembcaaHPutIn
import Derived.Test.YtjfjpabfkembcaaHSnoc
import Derived.Lib.OwnBridge
import Derived.Lib.AppendIntMem
import Derived.Sort.OwnSortedInts
import Derived.Ground.NamesProg
import Derived.Ground.Names2Prog
import Derived.Shelf.Sort.Plain
import Derived.Shelf.Slices.CompactI
import Derived.Test.YtjfjpabfkembcaaProg
/-! The library's sort and compact at this program's numbers: written by the kit's lay-plain. -/
namespace Go.Proofs
open Go.Shelf
def Try.laysSort_ren : Go.Shelf.Ren := ⟨fun | 189 => 153 | 125 => 188 | 257 => 187 | 128 => 202 | 129 => 203 | 294 => 193 | 295 => 194 | 296 => 195 | 297 => 196 | 298 => 197 | 299 => 198 | 216 => 199 | 300 => 200 | 301 => 201 | 328 => 205 | 329 => 206 | 330 => 207 | 331 => 208 | 332 => 209 | 215 => 210 | 343 => 211 | n => n, fun | 28 => 25 | 3 => 3 | 46 => 138 | 0 => 0 | 51 => 85 | 53 => 200 | 4 => 4 | 183 => 191 | 182 => 190 | 131 => 196 | 5 => 5 | 9 => 9 | 218 => 202 | 222 => 206 | 228 => 208 | 229 => 209 | n => n, fun | n => n⟩
theorem Try.laysSort : Go.Proofs.Lays.n189 Try.prog Try.laysSort_ren := {
  mixed := by kernel_rfl
  f125 := Try.func188.trans (congrArg some (by kernel_rfl))
  f128 := Try.func202.trans (congrArg some (by kernel_rfl))
  f129 := Try.func203.trans (congrArg some (by kernel_rfl))
  f189 := Try.func153.trans (congrArg some (by kernel_rfl))
  f215 := Try.func210.trans (congrArg some (by kernel_rfl))
  f216 := Try.func199.trans (congrArg some (by kernel_rfl))
  f257 := Try.func187.trans (congrArg some (by kernel_rfl))
  f294 := Try.func193.trans (congrArg some (by kernel_rfl))
  f295 := Try.func194.trans (congrArg some (by kernel_rfl))
  f296 := Try.func195.trans (congrArg some (by kernel_rfl))
  f297 := Try.func196.trans (congrArg some (by kernel_rfl))
  f298 := Try.func197.trans (congrArg some (by kernel_rfl))
  f299 := Try.func198.trans (congrArg some (by kernel_rfl))
  f300 := Try.func200.trans (congrArg some (by kernel_rfl))
  f301 := Try.func201.trans (congrArg some (by kernel_rfl))
  f328 := Try.func205.trans (congrArg some (by kernel_rfl))
  f329 := Try.func206.trans (congrArg some (by kernel_rfl))
  f330 := Try.func207.trans (congrArg some (by kernel_rfl))
  f331 := Try.func208.trans (congrArg some (by kernel_rfl))
  f332 := Try.func209.trans (congrArg some (by kernel_rfl))
  f343 := Try.func211.trans (congrArg some (by kernel_rfl))
  t0 := Try.underlying0
  a0 := Try.isAgg0
  z0 := Try.sizeOf0
  v0 := Try.zeroValue0
  t3 := Try.underlying3
  a3 := Try.isAgg3
  z3 := Try.sizeOf3
  v3 := Try.zeroValue3
  t4 := Try.underlying4
  a4 := Try.isAgg4
  z4 := Try.sizeOf4
  v4 := Try.zeroValue4
  t5 := Try.underlying5
  a5 := Try.isAgg5
  z5 := Try.sizeOf5
  v5 := Try.zeroValue5
  t9 := Try.underlying9
  a9 := Try.isAgg9
  z9 := Try.sizeOf9
  v9 := Try.zeroValue9
  t28 := Try.underlying25
  a28 := Try.isAgg25
  z28 := Try.sizeOf25
  v28 := Try.zeroValue25
  t46 := Try.underlying138
  a46 := Try.isAgg138
  z46 := Try.sizeOf138
  v46 := Try.zeroValue138
  t51 := Try.underlying85
  a51 := Try.isAgg85
  z51 := Try.sizeOf85
  v51 := Try.zeroValue85
  t53 := Try.underlying200
  a53 := Try.isAgg200
  z53 := Try.sizeOf200
  v53 := Try.zeroValue200
  t131 := Try.underlying196
  a131 := Try.isAgg196
  z131 := Try.sizeOf196
  v131 := Try.zeroValue196
  t182 := Try.underlying190
  a182 := Try.isAgg190
  z182 := Try.sizeOf190
  v182 := Try.zeroValue190
  t183 := Try.underlying191
  a183 := Try.isAgg191
  z183 := Try.sizeOf191
  v183 := Try.zeroValue191
  t218 := Try.underlying202
  a218 := Try.isAgg202
  z218 := Try.sizeOf202
  v218 := Try.zeroValue202
  t222 := Try.underlying206
  a222 := Try.isAgg206
  z222 := Try.sizeOf206
  v222 := Try.zeroValue206
  t228 := Try.underlying208
  a228 := Try.isAgg208
  z228 := Try.sizeOf208
  v228 := Try.zeroValue208
  t229 := Try.underlying209
  a229 := Try.isAgg209
  z229 := Try.sizeOf209
  v229 := Try.zeroValue209 }
def Try.laysCompact_ren : Go.Shelf.Ren := ⟨fun | 20 => 154 | n => n, fun | 22 => 25 | 3 => 3 | 4 => 4 | 0 => 0 | n => n, fun | n => n⟩
theorem Try.laysCompact : Go.Proofs.Lays2.n20 Try.prog Try.laysCompact_ren := {
  mixed := by kernel_rfl
  f20 := Try.func154.trans (congrArg some (by kernel_rfl))
  t0 := Try.underlying0
  a0 := Try.isAgg0
  z0 := Try.sizeOf0
  v0 := Try.zeroValue0
  t3 := Try.underlying3
  a3 := Try.isAgg3
  z3 := Try.sizeOf3
  v3 := Try.zeroValue3
  t4 := Try.underlying4
  a4 := Try.isAgg4
  z4 := Try.sizeOf4
  v4 := Try.zeroValue4
  t22 := Try.underlying25
  a22 := Try.isAgg25
  z22 := Try.sizeOf25
  v22 := Try.zeroValue25
  i3 := by kernel_rfl }
end Go.Proofs
namespace Go.Proofs.Ytjfjpabfkembcaa.H
open Go.RowKit Go.Sort
set_option linter.unusedVariables false
set_option linter.unusedSimpArgs false
theorem sort_calls (w : World) (g cap : Nat) (zs : List Int) (hH : Holds (Value.int .i64) w g 0 zs.toArray) (hg : g < w.heap.size) (hs : zs.length ≤ 4000001) :
    Calls Try.prog 153 #[.slice (some ⟨g, 0, none⟩) zs.length cap] w fun e w' => e = .returned (.tuple #[]) ∧ ∃ n os, w' = grow (putRow (Value.int .i64) (Sort.ahead w n) g 0 (sortL zs).toArray) os :=
  Any.slices_Sort_int Try.laysSort g 0 cap zs w hH hg (by omega)
theorem compact_calls (w : World) (g cap : Nat) (zs : List Int) (hH : Holds (Value.int .i64) w g 0 zs.toArray) (hs : zs.length ≤ 4000001) (hc : zs.length ≤ cap) :
    Calls Try.prog 154 #[.slice (some ⟨g, 0, none⟩) zs.length cap] w fun e w' => e = .returned (.slice (some ⟨g, 0, none⟩) (Lib.compact zs).length cap) ∧
      ∃ q, w' = putRow (Value.int .i64) (Sort.ahead w q) g 0 (Lib.compact zs ++ List.replicate (zs.length - (Lib.compact zs).length) 0).toArray :=
  Any.slices_Compact_int Try.laysCompact g 0 cap zs w hH (by omega) hc
theorem compact_len (zs : List Int) : (Lib.compact zs).length ≤ zs.length := by
  unfold Lib.compact Lib.compactUpTo
  rw [List.length_map]
  exact Nat.le_trans (List.length_filter_le _ _) (by simp)
theorem below_grow0 {B : Nat} {w : World} (hB : B ≤ w.heap.size) (os : Array Obj) : RowKit.Below B w (grow w os) :=
  ⟨rfl, rfl, rfl, by show w.heap.size ≤ (w.heap ++ os).size; rw [Array.size_append]; omega, fun j hj => by show (w.heap ++ os)[j]? = _; rw [Array.getElem?_append_left (by omega)]⟩
theorem owInts_row {w : World} {D : List Nat} {v : Value} {l : List Int} (h : owInts w D v l) : w.ownsRow 0 3 1 v l.length (l.map (Value.int .i64)) ∧ D = v.ownBlock.toList := by
  obtain ⟨xs, Di, h1, h2, h3⟩ := h
  have : Di = [] ∧ xs = l.map (Value.int .i64) := by
    clear h1 h2
    induction l generalizing Di xs with
    | nil => exact ⟨h3.1, h3.2⟩
    | cons x l ih =>
      obtain ⟨D1, D2, c1, c2, hD, hx, hR, ht⟩ := h3
      obtain ⟨e1, e2⟩ := ih _ _ ht
      rw [hD, hx, hR.1, hR.2, e1, e2]
      exact ⟨rfl, rfl⟩
  rw [this.1, List.append_nil] at h2
  rw [this.2] at h1
  exact ⟨h1, h2⟩
theorem owInts_of {w : World} {v : Value} {l : List Int} (h : w.ownsRow 0 3 1 v l.length (l.map (Value.int .i64))) : owInts w v.ownBlock.toList v l := by
  refine ⟨_, [], h, by simp, ?_⟩
  clear h
  induction l with
  | nil => exact ⟨rfl, rfl⟩
  | cons x l ih => exact ⟨[], [], [.int .i64 x], _, rfl, rfl, ⟨rfl, rfl⟩, ih⟩
set_option maxHeartbeats 2000000 in
set_option maxRecDepth 100000 in
theorem added_calls (w : World) (v : Value) (l : List Int) (x : Int) (h : rdInts w v l) (hl : l.length ≤ 4000000) : Calls Try.prog 78 #[v, .int .i64 x] w (RetRow owInts (addedL l x) w) := by
  have HR := Aside.mk h
  have HLL := Aside.mk hl
  obtain ⟨A, c, rfl, _, _⟩ := rd_len h
  clear h hl
  go_enter Try.func78, Try.ntmps78
  go_wp2_with (fail)
  refine (copyInts_calls _ _ l HR.out HLL.out).mono ?_
  rintro e w1 ⟨v1, D1, rfl, ho, hn, hb⟩
  obtain ⟨A1, c1, rfl⟩ := cell_own ow_int ho
  have HO := Aside.mk ho
  have HN := Aside.mk hn
  have HB := Aside.mk hb
  clear ho hn hb
  have HX : Aside ((l ++ [x]).length = l.length + 1) := ⟨by simp⟩
  go_wp2_with (at_builtin; refine list_snoc el_int ow_int (owRow_alloc ow_int HO.out (.cells #[.int .i64 x] 3)) (w0 := w) (y := x) (Dx := []) (cs := [.int .i64 x]) ⟨rfl, rfl⟩ (by rw [List.append_nil]; exact HN.out.alloc _) (by have := HB.out.size; simp; omega) (.tmp 7) (.tmp 9) (by rfl) (by rfl) (by rfl) w1.heap.size (by rfl) (Loc.new w1 _ _) (by have := HLL.out; omega) (by have := HLL.out; omega) (w1.heap.size + 1) (by simp) (fun g cap w' D' hk1 hk2 hk3 hk => ?_); have HO2 := Aside.mk hk1; have HN2 := Aside.mk hk2; have HK2 := Aside.mk ((HB.out.alloc (by have := HB.out.size; omega) (.cells #[.int .i64 x] 3)).trans (hk.below (fun b hb => (HN.out.2 b hb).1) (by have := HB.out.size; simp; omega))); clear hk1 hk2 hk3 hk)
  obtain ⟨hrow, hD⟩ := owInts_row HO2.out
  rw [HX.out] at hrow
  obtain ⟨g2, cap2, hv, _, hlt, hnc, hcm, hln, hH⟩ := Lib.holds_of_ownsRow hrow (by intro e; injection e with e; cases e)
  injection hv with hv1 _ hv3
  injection hv1 with hv1
  injection hv1 with hv1
  subst hv1 hv3
  have hgw : w.heap.size ≤ g := (HN2.out.2 g (by rw [hD]; simp [Value.ownBlock])).1
  have HG := Aside.mk (And.intro hgw (And.intro hnc hcm))
  have hcon := sort_calls w' g cap (l ++ [x]) hH hlt (by have := HLL.out; omega)
  rw [HX.out] at hcon
  refine hcon.mono ?_
  rintro e w3 ⟨rfl, n, os, hw3⟩
  have hsl : (sortL (l ++ [x])).length = l.length + 1 := by unfold sortL; rw [List.length_mergeSort, HX.out]
  have hrow3 : w3.ownsRow 0 3 1 (.slice (some ⟨g, 0, none⟩) (l.length + 1) cap) (l.length + 1) ((sortL (l ++ [x])).map (Value.int .i64)) := by
    rcases hrow.2 with ⟨e0, _⟩ | ⟨g', cap', cur, e0, _, hg', _, _, hs', _⟩
    · injection e0 with e0
      cases e0
    · injection e0 with e1 _ e3
      injection e1 with e1
      injection e1 with e1
      subst e1 e3
      have := ownsRow_sortedI (n := n) (os := os) (ss := l ++ [x]) (ts := sortL (l ++ [x])) (by rw [hsl, HX.out]) (Nat.zero_le g) hg' (by rw [HX.out]; exact HG.out.2.1) HG.out.2.2 hs'
      rw [HX.out] at this
      rw [hw3]
      exact this
  have hB3 : RowKit.Below w.heap.size w w3 := by
    rw [hw3]
    exact (Lib.below_putRow HK2.out hgw).trans (below_grow0 (by have := (Lib.below_putRow (enc := Value.int .i64) (q := n) (d := (sortL (l ++ [x])).toArray) HK2.out hgw).size; exact this) os)
  have HS3 := Aside.mk hsl
  have HR3 := Aside.mk hrow3
  have HB3 := Aside.mk hB3
  clear hcon hw3 hrow hD hlt hnc hcm hln hH hgw hsl hrow3 hB3 HO2 HN2 HK2 HO HN HB
  go_wp2_with (fail)
  obtain ⟨g2, cap2, hv, _, hlt, hnc, hcm, hln, hH⟩ := Lib.holds_of_ownsRow HR3.out (by intro e; injection e with e; cases e)
  injection hv with hv1 _ hv3
  injection hv1 with hv1
  injection hv1 with hv1
  subst hv1 hv3
  have hcon := compact_calls w3 g cap (sortL (l ++ [x])) hH (by have := HS3.out; have := HLL.out; omega) (by rw [HS3.out]; exact hnc)
  rw [HS3.out] at hcon
  refine hcon.mono ?_
  rintro e w4 ⟨rfl, q, hw4⟩
  have hcl := compact_len (sortL (l ++ [x]))
  have hrow4 := Lib.ownsRow_putRow (q := q) (k := (addedL l x).length) (ys := Lib.compact (sortL (l ++ [x])) ++ List.replicate (l.length + 1 - (Lib.compact (sortL (l ++ [x]))).length) 0) HR3.out (by rw [HS3.out] at hcl; simp; omega) (by unfold addedL; rw [HS3.out] at hcl; exact hcl)
  rw [show (addedL l x).length = (Lib.compact (sortL (l ++ [x]))).length from rfl, List.take_left, ← hw4] at hrow4
  have HF := Aside.mk (owInts_of hrow4)
  have HB4 : Aside (RowKit.Below w.heap.size w w4) := ⟨by rw [hw4]; exact Lib.below_putRow HB3.out HG.out.1⟩
  have HLT : Aside (g < w4.heap.size) := ⟨by
    have h1 := owRow_lt ow_int HF.out g (by simp [Value.ownBlock])
    exact h1⟩
  clear hcon hw4 hcl hrow4 hlt hnc hcm hln hH
  go_wp2
  go_ret
  exact ⟨_, [g], rfl, HF.out, ⟨by simp, fun b hb => by simp at hb; subst hb; exact ⟨HG.out.1, HLT.out⟩⟩, HB4.out⟩
end Go.Proofs.Ytjfjpabfkembcaa.H
