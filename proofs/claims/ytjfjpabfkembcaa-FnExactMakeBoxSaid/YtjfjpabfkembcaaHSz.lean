/- The sizes of what comes in: the walks of the statements' sz functions. -/
import Derived.Test.YtjfjpabfkembcaaProg
import Derived.Test.YtjfjpabfkembcaaHTac
import Derived.Test.YtjfjpabfkembcaaHRow
namespace Go.Proofs.Ytjfjpabfkembcaa.H
open Go.RowKit
set_option linter.unusedVariables false
set_option linter.unusedSimpArgs false

theorem isSz_rng {n : Nat} {a r : Int} (h : isSz n a r) (h1 : a ≤ 1048576) : -1 ≤ r ∧ r ≤ 1048576 := by unfold isSz at h; omega

set_option maxHeartbeats 1000000 in
theorem szInts_calls (w : World) (v : Value) (l : List Int) (left : Int) (h : rdInts w v l) (h0 : 0 ≤ left) (h1 : left ≤ 1048576) :
    Calls Try.prog 68 #[v, .int .i64 left] w (RetSz l.length left w) := by
  obtain ⟨A, c, rfl, hc, hm⟩ := rd_len h
  clear h hc
  go_enter Try.func68, Try.ntmps68
  go_wp2
  all_goals
    go_ret
    exact ⟨_, rfl, by unfold isSz; omega, Below.refl _ _⟩
set_option maxHeartbeats 1000000 in
theorem szRegs_calls (w : World) (v : Value) (l : List Reg) (left : Int) (h : rdRegs w v l) (h0 : 0 ≤ left) (h1 : left ≤ 1048576) :
    Calls Try.prog 103 #[v, .int .i64 left] w (RetSz l.length left w) := by
  obtain ⟨A, c, rfl, hc, hm⟩ := rd_len h
  clear h hc
  go_enter Try.func103, Try.ntmps103
  go_wp2
  all_goals
    go_ret
    exact ⟨_, rfl, by unfold isSz; omega, Below.refl _ _⟩
set_option maxHeartbeats 1000000 in
theorem szMail_calls (w : World) (fv : Value) (m : Mail) (left : Int) (h : rdRegs w fv m.fl) (ht : m.tx.size ≤ 140737488351232) (h0 : 0 ≤ left) (h1 : left ≤ 1048576) :
    Calls Try.prog 25 #[.agg #[.int .i64 m.g, .int .i64 m.u, fv, .string m.tx], .int .i64 left] w (RetSz (szMail m) left w) := by
  have HR := Aside.mk h
  have hfv := rd_one h
  clear h
  go_enter Try.func25, Try.ntmps25
  go_wp2_with (go_at_call 103; refine (szRegs_calls _ _ m.fl left (rdRegs_mov (below_alloc (Below.refl _ _) _) HR.out) h0 h1).mono ?_; rintro e w' ⟨r, rfl, hr, hb⟩; obtain ⟨g1, g2⟩ := isSz_rng hr h1; have hx := cell_b (p := ⟨w.heap.size, 3, none⟩) hb (v := .string m.tx) (by simp); have HB := Aside.mk (below_step (below_alloc (Below.refl _ _) _) hb); have HK := Aside.mk hr; clear hb hr)
  all_goals
    go_ret
    exact ⟨_, rfl, by have := HK.out; unfold isSz szMail at *; omega, HB.out⟩

theorem szMails0_at {l : List Mail} {i : Nat} (h : i < l.length) : szMails0 (l.drop i) = szMail l[i] + szMails0 (l.drop (i + 1)) := by
  rw [List.drop_eq_getElem_cons h]; rfl
theorem szMails0_end {l : List Mail} : szMails0 (l.drop l.length) = 0 := by simp [szMails0]
set_option maxHeartbeats 1000000 in
theorem szMails_calls (w : World) (v : Value) (l : List Mail) (left : Int) (h : rdMails w v l) (ht : ∀ m ∈ l, tmMail m) (h0 : 0 ≤ left) (h1 : left ≤ 1048576) :
    Calls Try.prog 67 #[v, .int .i64 left] w (RetSz (szMails l) left w) := by
  obtain ⟨A, c, rfl, hc, hm⟩ := rd_len h
  have HR := Aside.mk h
  have HT := Aside.mk ht
  clear h hc ht
  go_enter Try.func67, Try.ntmps67
  go_wp2
  · go_ret
    exact ⟨_, rfl, by unfold isSz szMails; omega, Below.refl _ _⟩
  · go_loopw [1, 5] (fun v1 v5 wr => ∃ (i : Nat) (a : Int), i ≤ l.length ∧ v5 = .int .i64 i ∧ v1 = .int .i64 a ∧ 0 ≤ a ∧ a ≤ 1048576 ∧ Aside ((szMails l : Int) + a = left + szMails0 (l.drop i)) ∧ Aside (Below w.heap.size w wr)) (fun _ v5 _ => l.length - (intOf v5).toNat)
    case atStart => exact ⟨0, _, Nat.zero_le _, rfl, rfl, by omega, by omega, ⟨by unfold szMails; rw [List.drop_zero]; omega⟩, ⟨Below.refl _ _⟩⟩
    case round =>
      obtain ⟨i, a, hi, rfl, rfl, ha0, ha1, HE, HB⟩ := hrel
      by_cases hlt : i < l.length
      · obtain ⟨ad, fv, hA, x0, x1, x2, x3, hf⟩ := rdMails_at (rdMails_mov HB.out HR.out) i hlt
        subst hA
        have hfv := rd_one hf
        have HF := Aside.mk hf
        have HM := Aside.mk (HT.out l[i] (List.getElem_mem hlt))
        have HS := Aside.mk (szMails0_at hlt)
        clear hf
        generalize l[i] = m at x0 x1 x2 x3 HF HM HS
        go_wp2_with (go_at_call 25; refine (szMail_calls _ _ m a HF.out HM.out ha0 ha1).mono ?_; rintro e w' ⟨r, rfl, hr, hb⟩; obtain ⟨g1, g2⟩ := isSz_rng hr ha1; have HB2 := Aside.mk (below_step HB.out hb); have HK := Aside.mk hr; clear hb hr)
        · go_ret
          exact ⟨_, rfl, by have h1 := HK.out; have h2 := HE.out; rw [HS.out] at h2; unfold isSz at *; omega, HB2.out⟩
        · go_roundw
          case rel => exact ⟨i + 1, _, by omega, by go_num, rfl, by omega, by omega, ⟨by have h1 := HK.out; have h2 := HE.out; rw [HS.out] at h2; unfold isSz at h1; omega⟩, HB2⟩
          case measure => simp [intOf]; omega
      · obtain rfl : i = l.length := by omega
        clear hlt
        go_wp2
        go_ret
        exact ⟨_, rfl, by have h2 := HE.out; rw [szMails0_end] at h2; unfold isSz; omega, HB.out⟩
set_option maxHeartbeats 1000000 in
theorem szBox_calls (w : World) (mv gv : Value) (b : Box) (left : Int) (h : rdMails w mv b.ml) (hg : rdInts w gv b.go) (ht : tmBox b) (h0 : 0 ≤ left) (h1 : left ≤ 1048576) :
    Calls Try.prog 11 #[.agg #[.int .i64 b.g, .string b.nm, .int .i64 b.t, .int .i64 b.b, .int .i64 b.nx, mv, gv], .int .i64 left] w (RetSz (szBox b) left w) := by
  have HR := Aside.mk h
  have HG := Aside.mk hg
  have hmv := rd_one h
  have hgv := rd_one hg
  have hn : b.nm.size ≤ 140737488351232 := ht.1
  have HT := Aside.mk ht.2
  clear h hg ht
  go_enter Try.func11, Try.ntmps11
  go_wp2_with (first
    | (go_at_call 67; refine (szMails_calls _ _ b.ml _ (rdMails_mov (below_alloc (Below.refl _ _) _) HR.out) HT.out (by omega) (by omega)).mono ?_; rintro e w' ⟨r, rfl, hr, hb⟩; obtain ⟨g1, g2⟩ := isSz_rng hr (by omega); have hx := cell_b (p := ⟨w.heap.size, 6, none⟩) hb (v := gv) (by simp); have HB := Aside.mk (below_step (below_alloc (Below.refl _ _) _) hb); have HK := Aside.mk hr; clear hb hr)
    | (go_at_call 68; refine (szInts_calls _ _ b.go _ (rdInts_mov HB.out HG.out) (by omega) (by omega)).mono ?_; rintro e w2 ⟨r2, rfl, hr, hb⟩; obtain ⟨g3, g4⟩ := isSz_rng hr (by omega); have HB2 := Aside.mk (below_step HB.out hb); have HK2 := Aside.mk hr; clear hb hr))
  · go_ret
    exact ⟨_, rfl, by unfold isSz szBox at *; omega, below_alloc (Below.refl _ _) _⟩
  · go_ret
    exact ⟨_, rfl, by have := HK.out; unfold isSz szBox at *; omega, HB.out⟩
  all_goals
    go_ret
    exact ⟨_, rfl, by have := HK.out; have := HK2.out; unfold isSz szBox at *; omega, HB2.out⟩

theorem szBoxes0_at {l : List Box} {i : Nat} (h : i < l.length) : szBoxes0 (l.drop i) = szBox l[i] + szBoxes0 (l.drop (i + 1)) := by
  rw [List.drop_eq_getElem_cons h]; rfl
theorem szBoxes0_end {l : List Box} : szBoxes0 (l.drop l.length) = 0 := by simp [szBoxes0]
set_option maxHeartbeats 1000000 in
theorem szBoxes_calls (w : World) (v : Value) (l : List Box) (left : Int) (h : rdBoxes w v l) (ht : ∀ m ∈ l, tmBox m) (h0 : 0 ≤ left) (h1 : left ≤ 1048576) :
    Calls Try.prog 86 #[v, .int .i64 left] w (RetSz (szBoxes l) left w) := by
  obtain ⟨A, c, rfl, hc, hm⟩ := rd_len h
  have HR := Aside.mk h
  have HT := Aside.mk ht
  clear h hc ht
  go_enter Try.func86, Try.ntmps86
  go_wp2
  · go_ret
    exact ⟨_, rfl, by unfold isSz szBoxes; omega, Below.refl _ _⟩
  · go_loopw [1, 5] (fun v1 v5 wr => ∃ (i : Nat) (a : Int), i ≤ l.length ∧ v5 = .int .i64 i ∧ v1 = .int .i64 a ∧ 0 ≤ a ∧ a ≤ 1048576 ∧ Aside ((szBoxes l : Int) + a = left + szBoxes0 (l.drop i)) ∧ Aside (Below w.heap.size w wr)) (fun _ v5 _ => l.length - (intOf v5).toNat)
    case atStart => exact ⟨0, _, Nat.zero_le _, rfl, rfl, by omega, by omega, ⟨by unfold szBoxes; rw [List.drop_zero]; omega⟩, ⟨Below.refl _ _⟩⟩
    case round =>
      obtain ⟨i, a, hi, rfl, rfl, ha0, ha1, HE, HB⟩ := hrel
      by_cases hlt : i < l.length
      · obtain ⟨ad, mv, gv, hA, x0, x1, x2, x3, x4, x5, x6, hf, hg⟩ := rdBoxes_at (rdBoxes_mov HB.out HR.out) i hlt
        subst hA
        have hmv := rd_one hf
        have hgv := rd_one hg
        have HF := Aside.mk hf
        have HG := Aside.mk hg
        have HM := Aside.mk (HT.out l[i] (List.getElem_mem hlt))
        have HS := Aside.mk (szBoxes0_at hlt)
        clear hf hg
        generalize l[i] = m at x0 x1 x2 x3 x4 x5 x6 HF HG HM HS
        go_wp2_with (go_at_call 11; refine (szBox_calls _ _ _ m a HF.out HG.out HM.out ha0 ha1).mono ?_; rintro e w' ⟨r, rfl, hr, hb⟩; obtain ⟨g1, g2⟩ := isSz_rng hr ha1; have HB2 := Aside.mk (below_step HB.out hb); have HK := Aside.mk hr; clear hb hr)
        · go_ret
          exact ⟨_, rfl, by have h1 := HK.out; have h2 := HE.out; rw [HS.out] at h2; unfold isSz at *; omega, HB2.out⟩
        · go_roundw
          case rel => exact ⟨i + 1, _, by omega, by go_num, rfl, by omega, by omega, ⟨by have h1 := HK.out; have h2 := HE.out; rw [HS.out] at h2; unfold isSz at h1; omega⟩, HB2⟩
          case measure => simp [intOf]; omega
      · obtain rfl : i = l.length := by omega
        clear hlt
        go_wp2
        go_ret
        exact ⟨_, rfl, by have h2 := HE.out; rw [szBoxes0_end] at h2; unfold isSz; omega, HB.out⟩
set_option maxHeartbeats 1000000 in
theorem szStore_calls (w : World) (bv gv : Value) (s : Store) (left : Int) (h : rdBoxes w bv s.bx) (hg : rdInts w gv s.go) (ht : tmStore s) (h0 : 0 ≤ left) (h1 : left ≤ 1048576) :
    Calls Try.prog 18 #[.agg #[.int .i64 s.by_, .int .i64 s.tm, bv, gv], .int .i64 left] w (RetSz (szStore s) left w) := by
  have HR := Aside.mk h
  have HG := Aside.mk hg
  have hmv := rd_one h
  have hgv := rd_one hg
  have HT := Aside.mk ht
  clear h hg ht
  go_enter Try.func18, Try.ntmps18
  go_wp2_with (first
    | (go_at_call 86; refine (szBoxes_calls _ _ s.bx _ (rdBoxes_mov (below_alloc (Below.refl _ _) _) HR.out) HT.out (by omega) (by omega)).mono ?_; rintro e w' ⟨r, rfl, hr, hb⟩; obtain ⟨g1, g2⟩ := isSz_rng hr (by omega); have hx := cell_b (p := ⟨w.heap.size, 3, none⟩) hb (v := gv) (by simp); have HB := Aside.mk (below_step (below_alloc (Below.refl _ _) _) hb); have HK := Aside.mk hr; clear hb hr)
    | (go_at_call 68; refine (szInts_calls _ _ s.go _ (rdInts_mov HB.out HG.out) (by omega) (by omega)).mono ?_; rintro e w2 ⟨r2, rfl, hr, hb⟩; obtain ⟨g3, g4⟩ := isSz_rng hr (by omega); have HB2 := Aside.mk (below_step HB.out hb); have HK2 := Aside.mk hr; clear hb hr))
  · go_ret
    exact ⟨_, rfl, by have := HK.out; unfold isSz szStore at *; omega, HB.out⟩
  all_goals
    go_ret
    exact ⟨_, rfl, by have := HK.out; have := HK2.out; unfold isSz szStore at *; omega, HB2.out⟩
end Go.Proofs.Ytjfjpabfkembcaa.H
