/- What was marked is held: the walks of the statements' held functions. -/
import Derived.Test.YtjfjpabfkembcaaHMark
import Derived.Deep.RegionHeld3
import Derived.Deep.DeepCutAuto
namespace Go.Proofs.Ytjfjpabfkembcaa.H
open Go.RowKit
set_option linter.unusedVariables false
set_option linter.unusedSimpArgs false

theorem split_at {α : Type} {l : List α} {i : Nat} (hi : i < l.length) : l = l.take i ++ (l[i] :: l.drop (i + 1)) := by
  conv => lhs; rw [← List.take_append_drop i l, List.drop_eq_getElem_cons hi]
theorem mkRegs_get {l : List Reg} {k : Int} {i : Nat} (hi : i < l.length) (h : i < (mkRegs k l).length) : (mkRegs k l)[i] = ⟨k + 3 * i, k + 3 * i + 1, k + 3 * i + 1 + 1⟩ := by
  have e : mkRegs k l = mkRegs k (l.take i) ++ mkRegs (k + 3 * (l.take i).length) (l[i] :: l.drop (i + 1)) := by rw [← mkRegs_app, ← split_at hi]
  have hl : (l.take i).length = i := by rw [List.length_take]; omega
  rw [List.getElem_of_eq e, List.getElem_append_right (by rw [mkRegs_len]; omega)]
  simp only [mkRegs_len, hl, Nat.sub_self, mkRegs, List.getElem_cons_zero]
  rw [show k + 3 * (i : Int) + 2 = k + 3 * i + 1 + 1 by omega]
theorem mkInts_get {l : List Int} {k : Int} {i : Nat} (hi : i < l.length) (h : i < (mkInts k l).length) : (mkInts k l)[i] = k + i := by
  have e : mkInts k l = mkInts k (l.take i) ++ mkInts (k + (l.take i).length) (l[i] :: l.drop (i + 1)) := by rw [← mkInts_app, ← split_at hi]
  have hl : (l.take i).length = i := by rw [List.length_take]; omega
  rw [List.getElem_of_eq e, List.getElem_append_right (by rw [mkInts_len]; omega)]
  simp only [mkInts_len, hl, Nat.sub_self, mkInts, List.getElem_cons_zero]
theorem mkMails_get {l : List Mail} {k : Int} {i : Nat} (hi : i < l.length) (h : i < (mkMails k l).length) :
    (mkMails k l)[i] = ⟨k + cMails (l.take i), k + cMails (l.take i) + 1, mkRegs (k + cMails (l.take i) + 1 + 1) l[i].fl, mtext (k + cMails (l.take i) + 1 + 1 + 3 * l[i].fl.length)⟩ := by
  have e : mkMails k l = mkMails k (l.take i) ++ mkMails (k + cMails (l.take i)) (l[i] :: l.drop (i + 1)) := by rw [← mkMails_app, ← split_at hi]
  have hl : (l.take i).length = i := by rw [List.length_take]; omega
  rw [List.getElem_of_eq e, List.getElem_append_right (by rw [mkMails_len]; omega)]
  simp only [mkMails_len, hl, Nat.sub_self, mkMails, List.getElem_cons_zero]
  rw [show k + cMails (l.take i) + 2 = k + cMails (l.take i) + 1 + 1 by omega]
theorem mkBoxes_get {l : List Box} {k : Int} {i : Nat} (hi : i < l.length) (h : i < (mkBoxes k l).length) : (mkBoxes k l)[i] = mkBox (k + cBoxes (l.take i)) l[i] := by
  have e : mkBoxes k l = mkBoxes k (l.take i) ++ ([mkBox (k + cBoxes (l.take i)) l[i]] ++ mkBoxes (k + cBoxes (l.take i) + cBoxes [l[i]]) (l.drop (i + 1))) := by
    rw [← mkBox_one, ← mkBoxes_app, ← mkBoxes_app, List.singleton_append, ← split_at hi]
  have hl : (l.take i).length = i := by rw [List.length_take]; omega
  rw [List.getElem_of_eq e, List.getElem_append_right (by rw [mkBoxes_len]; omega)]
  simp only [mkBoxes_len, hl, Nat.sub_self, List.singleton_append, List.getElem_cons_zero]

def RetK (k : Int) (w : World) (e : Ending) (w' : World) : Prop := e = .returned (.int .i64 k) ∧ Below w.heap.size w w'
set_option maxHeartbeats 2000000 in
set_option maxRecDepth 100000 in
theorem heldRegs_calls (w : World) (v : Value) (l : List Reg) (k : Int) (h : rdRegs w v (mkRegs k l)) (h0 : 0 ≤ k) (h1 : k + 3 * l.length ≤ 1000000000000) :
    Calls Try.prog 110 #[v, .int .i64 k] w (RetK (k + 3 * l.length) w) := by
  obtain ⟨A, c, rfl, _, hm⟩ := rd_len h
  have HR := Aside.mk h
  rw [mkRegs_len] at hm HR ⊢
  clear h
  go_enter Try.func110, Try.ntmps110
  go_wp2
  go_loopw [1, 5] (fun v1 v5 wr => ∃ (i : Nat) (a : Int), i ≤ l.length ∧ v5 = .int .i64 i ∧ v1 = .int .i64 a ∧ 0 ≤ a ∧ a + 3 * ((l.length : Int) - i) ≤ 1000000000000 ∧ Aside (a = k + 3 * i) ∧ Aside (Below w.heap.size w wr)) (fun _ v5 _ => l.length - (intOf v5).toNat)
  case atStart => exact ⟨0, _, Nat.zero_le _, rfl, rfl, h0, by omega, ⟨by simp⟩, ⟨Below.refl _ _⟩⟩
  case round =>
    clear h0 h1
    obtain ⟨i, a, hi, rfl, rfl, ha0, ha1, HA, HB⟩ := hrel
    by_cases hlt : i < l.length
    · have hx : i < (mkRegs k l).length := by rw [mkRegs_len]; exact hlt
      obtain ⟨ad, hA, x0, x1, x2⟩ := rdRegs_at (rdRegs_mov HB.out HR.out) i hx
      subst hA
      rw [mkRegs_get hlt hx] at x0 x1 x2
      simp only [← HA.out] at x0 x1 x2
      clear hx
      have q0 : (0 : Int) ≤ (i : Int) := by omega
      have q1 : (i : Int) < (l.length : Int) := by omega
      go_wp2
      go_roundw
      case rel => exact ⟨i + 1, _, by omega, by go_num, rfl, by omega, by push_cast; omega, ⟨by have := HA.out; push_cast; omega⟩, HB⟩
      case measure => simp [intOf]; omega
    · obtain rfl : i = l.length := by omega
      clear hlt
      go_wp2
      go_ret
      exact ⟨ret_i HA.out, HB.out⟩
set_option maxHeartbeats 2000000 in
set_option maxRecDepth 100000 in
theorem heldInts_calls (w : World) (v : Value) (l : List Int) (k : Int) (h : rdInts w v (mkInts k l)) (h0 : 0 ≤ k) (h1 : k + l.length ≤ 1000000000000) :
    Calls Try.prog 85 #[v, .int .i64 k] w (RetK (k + l.length) w) := by
  obtain ⟨A, c, rfl, _, hm⟩ := rd_len h
  have HR := Aside.mk h
  rw [mkInts_len] at hm HR ⊢
  clear h
  go_enter Try.func85, Try.ntmps85
  go_wp2
  go_loopw [1, 5] (fun v1 v5 wr => ∃ (i : Nat) (a : Int), i ≤ l.length ∧ v5 = .int .i64 i ∧ v1 = .int .i64 a ∧ 0 ≤ a ∧ a + ((l.length : Int) - i) ≤ 1000000000000 ∧ Aside (a = k + i) ∧ Aside (Below w.heap.size w wr)) (fun _ v5 _ => l.length - (intOf v5).toNat)
  case atStart => exact ⟨0, _, Nat.zero_le _, rfl, rfl, h0, by omega, ⟨by simp⟩, ⟨Below.refl _ _⟩⟩
  case round =>
    clear h0 h1
    obtain ⟨i, a, hi, rfl, rfl, ha0, ha1, HA, HB⟩ := hrel
    by_cases hlt : i < l.length
    · have hx : i < (mkInts k l).length := by rw [mkInts_len]; exact hlt
      obtain ⟨ad, hA, x0⟩ := rdInts_at (rdInts_mov HB.out HR.out) i hx
      subst hA
      rw [mkInts_get hlt hx] at x0
      simp only [← HA.out] at x0
      clear hx
      have q0 : (0 : Int) ≤ (i : Int) := by omega
      have q1 : (i : Int) < (l.length : Int) := by omega
      go_wp2
      go_roundw
      case rel => exact ⟨i + 1, _, by omega, by go_num, rfl, by omega, by push_cast; omega, ⟨by have := HA.out; push_cast; omega⟩, HB⟩
      case measure => simp [intOf]; omega
    · obtain rfl : i = l.length := by omega
      clear hlt
      go_wp2
      go_ret
      exact ⟨ret_i HA.out, HB.out⟩
set_option maxHeartbeats 2000000 in
set_option maxRecDepth 100000 in
theorem heldMails_calls (w : World) (v : Value) (l : List Mail) (k : Int) (h : rdMails w v (mkMails k l)) (h0 : 0 ≤ k) (h1 : k + cMails l ≤ 1000000000000) :
    Calls Try.prog 84 #[v, .int .i64 k] w (RetK (k + cMails l) w) := by
  obtain ⟨A, c, rfl, _, hm⟩ := rd_len h
  have HR := Aside.mk h
  rw [mkMails_len] at hm HR ⊢
  have HK := Aside.mk h1
  clear h h1
  go_enter Try.func84, Try.ntmps84
  go_wp2
  go_loopw [1, 5] (fun v1 v5 wr => ∃ (i : Nat) (a : Int), i ≤ l.length ∧ v5 = .int .i64 i ∧ v1 = .int .i64 a ∧ 0 ≤ a ∧ Aside (a = k + cMails (l.take i)) ∧ Aside (Below w.heap.size w wr)) (fun _ v5 _ => l.length - (intOf v5).toNat)
  case atStart => exact ⟨0, _, Nat.zero_le _, rfl, rfl, h0, ⟨by simp [cMails]⟩, ⟨Below.refl _ _⟩⟩
  case round =>
    clear h0
    obtain ⟨i, a, hi, rfl, rfl, ha0, HA, HB⟩ := hrel
    by_cases hlt : i < l.length
    · have hx : i < (mkMails k l).length := by rw [mkMails_len]; exact hlt
      obtain ⟨ad, fv, hA, x0, x1, x2, x3, hf⟩ := rdMails_at (rdMails_mov HB.out HR.out) i hx
      subst hA
      rw [mkMails_get hlt hx] at x0 x1 x3 hf
      simp only [← HA.out] at x0 x1 x3 hf
      have HT : Aside (l.take (i + 1) = l.take i ++ [l[i]]) := ⟨List.take_succ_eq_append_getElem hlt⟩
      have hcl : cMails l = cMails (l.take i) + cMail l[i] + cMails (l.drop (i + 1)) := by
        conv => lhs; rw [split_at hlt, cMails_app, cMails]
        omega
      have hcn := cMails_nn (l.drop (i + 1))
      generalize l[i] = m at x3 hf HT hcl
      have hk1 : a + cMail m ≤ 1000000000000 := by have := HA.out; have := HK.out; omega
      have hk2 : a + 3 + 3 * (m.fl.length : Int) ≤ 1000000000000 := by unfold cMail at hk1; omega
      have o1 := rd_one hf
      have HF := Aside.mk hf
      clear hx hf hcl hcn hk1
      have q0 : (0 : Int) ≤ (i : Int) := by omega
      have q1 : (i : Int) < (l.length : Int) := by omega
      go_wp2_with (go_at_call 110; refine (heldRegs_calls _ _ m.fl _ HF.out (by omega) (by omega)).mono ?_; rintro e w1 ⟨rfl, hb⟩; replace x3 := cell_b hb x3; have HB1 := Aside.mk (below_step HB.out hb); clear hb)
      go_region_held3 (fun w' => w'.cell? ⟨(ad.add (i * 4)).block, (ad.add (i * 4)).off + 3, none⟩ = some (.string (mtext (a + 1 + 1 + 3 * m.fl.length)))) ((repeat' apply And.intro) <;> (first | (refine cell_b hb ?_; assumption) | go_keep))
        ((go_at_call 155; refine (markTextI_calls _ _ (by omega) (by omega)).mono ?_; rintro e w' ⟨rfl, hb⟩))
      have HB2 := Aside.mk (below_step (below_drew HB1.out) hb)
      clear hb
      go_wp2
      go_roundw
      case rel => exact ⟨i + 1, _, by omega, by go_num, rfl, by omega, ⟨by have := HA.out; rw [HT.out, cMails_app]; simp only [cMails, cMail]; omega⟩, HB2⟩
      case measure => simp [intOf]; omega
    · obtain rfl : i = l.length := by omega
      clear hlt
      go_wp2
      go_ret
      exact ⟨ret_i (by have := HA.out; rw [List.take_length] at this; exact this), HB.out⟩
set_option maxHeartbeats 2000000 in
set_option maxRecDepth 100000 in
theorem heldBoxes_calls (w : World) (v : Value) (l : List Box) (k : Int) (h : rdBoxes w v (mkBoxes k l)) (h0 : 0 ≤ k) (h1 : k + cBoxes l ≤ 1000000000000) :
    Calls Try.prog 102 #[v, .int .i64 k] w (RetK (k + cBoxes l) w) := by
  obtain ⟨A, c, rfl, _, hm⟩ := rd_len h
  have HR := Aside.mk h
  rw [mkBoxes_len] at hm HR ⊢
  have HK := Aside.mk h1
  clear h h1
  go_enter Try.func102, Try.ntmps102
  go_wp2
  go_loopw [1, 5] (fun v1 v5 wr => ∃ (i : Nat) (a : Int), i ≤ l.length ∧ v5 = .int .i64 i ∧ v1 = .int .i64 a ∧ 0 ≤ a ∧ Aside (a = k + cBoxes (l.take i)) ∧ Aside (Below w.heap.size w wr)) (fun _ v5 _ => l.length - (intOf v5).toNat)
  case atStart => exact ⟨0, _, Nat.zero_le _, rfl, rfl, h0, ⟨by simp [cBoxes]⟩, ⟨Below.refl _ _⟩⟩
  case round =>
    clear h0
    obtain ⟨i, a, hi, rfl, rfl, ha0, HA, HB⟩ := hrel
    by_cases hlt : i < l.length
    · have hx : i < (mkBoxes k l).length := by rw [mkBoxes_len]; exact hlt
      obtain ⟨ad, mv, gv, hA, x0, x1, x2, x3, x4, x5, x6, hf, hg⟩ := rdBoxes_at (rdBoxes_mov HB.out HR.out) i hx
      subst hA
      rw [mkBoxes_get hlt hx] at x0 x1 x2 x3 x4 hf hg
      simp only [← HA.out, mkBox] at x0 x1 x2 x3 x4 hf hg
      have HT : Aside (l.take (i + 1) = l.take i ++ [l[i]]) := ⟨List.take_succ_eq_append_getElem hlt⟩
      have hcl : cBoxes l = cBoxes (l.take i) + cBox l[i] + cBoxes (l.drop (i + 1)) := by
        conv => lhs; rw [split_at hlt, cBoxes_app, cBoxes]
        omega
      have hcn := cBoxes_nn (l.drop (i + 1))
      generalize l[i] = m at hf hg HT hcl
      have hmn := cMails_nn m.ml
      have hk1 : a + cBox m ≤ 1000000000000 := by have := HA.out; have := HK.out; omega
      have hk2 : a + 5 + cMails m.ml + (m.go.length : Int) ≤ 1000000000000 := by unfold cBox at hk1; omega
      have o1 := rd_one hf
      have o2 := rd_one hg
      have HF := Aside.mk hf
      have HG := Aside.mk hg
      clear hx hf hg hcl hcn hk1
      have q0 : (0 : Int) ≤ (i : Int) := by omega
      have q1 : (i : Int) < (l.length : Int) := by omega
      go_wp2
      go_region_held3 (fun w' => w'.cell? ⟨(ad.add (i * 7)).block, (ad.add (i * 7)).off + 1, none⟩ = some (.string (mtext (a + 1)))) ((repeat' apply And.intro) <;> (first | (refine cell_b hb ?_; assumption) | go_keep))
        ((go_at_call 155; refine (markTextI_calls _ _ (by omega) (by omega)).mono ?_; rintro e w1 ⟨rfl, hb⟩))
      replace x2 := cell_b (w := wr.drew) hb x2
      replace x3 := cell_b (w := wr.drew) hb x3
      replace x4 := cell_b (w := wr.drew) hb x4
      replace x5 := cell_b (w := wr.drew) hb x5
      replace x6 := cell_b (w := wr.drew) hb x6
      have HB1 := Aside.mk (below_step (below_drew HB.out) hb)
      have HBr := Aside.mk (below_step (w0 := wr) (below_drew (Below.refl _ _)) hb)
      clear hb
      go_wp2_with (first
        | (go_at_call 84; refine (heldMails_calls _ _ m.ml _ (rdMails_mov HBr.out HF.out) (by omega) (by omega)).mono ?_; rintro e w2 ⟨rfl, hb⟩; replace x6 := cell_b hb x6; have HB2 := Aside.mk (below_step HB1.out hb); have HBs := Aside.mk (below_step HBr.out hb); clear hb)
        | (go_at_call 85; refine (heldInts_calls _ _ m.go _ (rdInts_mov HBs.out HG.out) (by omega) (by omega)).mono ?_; rintro e w3 ⟨rfl, hb⟩; have HB3 := Aside.mk (below_step HB2.out hb); clear hb))
      go_roundw
      case rel => exact ⟨i + 1, _, by omega, by go_num, rfl, by omega, ⟨by have := HA.out; rw [HT.out, cBoxes_app]; simp only [cBoxes, cBox]; omega⟩, HB3⟩
      case measure => simp [intOf]; omega
    · obtain rfl : i = l.length := by omega
      clear hlt
      go_wp2
      go_ret
      exact ⟨ret_i (by have := HA.out; rw [List.take_length] at this; exact this), HB.out⟩
set_option maxHeartbeats 2000000 in
set_option maxRecDepth 100000 in
theorem heldBox_calls (w : World) (mv gv : Value) (b : Box) (k : Int) (h : rdMails w mv (markedBox b k).ml) (hg : rdInts w gv (markedBox b k).go) (h0 : 0 ≤ k) (h1 : k + cMails b.ml + b.go.length ≤ 1000000000000) :
    Calls Try.prog 17 #[.agg #[.int .i64 b.g, .string b.nm, .int .i64 b.t, .int .i64 b.b, .int .i64 b.nx, mv, gv], .int .i64 k] w (RetK (k + cMails b.ml + b.go.length) w) := by
  have o1 := rd_one h
  have o2 := rd_one hg
  have HR := Aside.mk h
  have HG := Aside.mk hg
  have hcn := cMails_nn b.ml
  clear h hg
  go_enter Try.func17, Try.ntmps17
  go_wp2_with (first
    | (go_at_call 84; refine (heldMails_calls _ _ b.ml _ (rdMails_mov (below_alloc (Below.refl _ _) _) HR.out) (by omega) (by omega)).mono ?_; rintro e w1 ⟨rfl, hb⟩; have z := cell_b (p := ⟨w.heap.size, 6, none⟩) hb (v := gv) (by simp); have HB := Aside.mk (below_step (below_alloc (Below.refl _ _) _) hb); clear hb)
    | (go_at_call 85; refine (heldInts_calls _ _ b.go _ (rdInts_mov HB.out HG.out) (by omega) (by omega)).mono ?_; rintro e w2 ⟨rfl, hb⟩; have HB2 := Aside.mk (below_step HB.out hb); clear hb))
  go_ret
  exact ⟨rfl, HB2.out⟩
set_option maxHeartbeats 2000000 in
set_option maxRecDepth 100000 in
theorem heldStore_calls (w : World) (mv gv : Value) (b : Store) (k : Int) (h : rdBoxes w mv (markedStore b k).bx) (hg : rdInts w gv (markedStore b k).go) (h0 : 0 ≤ k) (h1 : k + cBoxes b.bx + b.go.length ≤ 1000000000000) :
    Calls Try.prog 24 #[.agg #[.int .i64 b.by_, .int .i64 b.tm, mv, gv], .int .i64 k] w (RetK (k + cBoxes b.bx + b.go.length) w) := by
  have o1 := rd_one h
  have o2 := rd_one hg
  have HR := Aside.mk h
  have HG := Aside.mk hg
  have hcn := cBoxes_nn b.bx
  clear h hg
  go_enter Try.func24, Try.ntmps24
  go_wp2_with (first
    | (go_at_call 102; refine (heldBoxes_calls _ _ b.bx _ (rdBoxes_mov (below_alloc (Below.refl _ _) _) HR.out) (by omega) (by omega)).mono ?_; rintro e w1 ⟨rfl, hb⟩; have z := cell_b (p := ⟨w.heap.size, 3, none⟩) hb (v := gv) (by simp); have HB := Aside.mk (below_step (below_alloc (Below.refl _ _) _) hb); clear hb)
    | (go_at_call 85; refine (heldInts_calls _ _ b.go _ (rdInts_mov HB.out HG.out) (by omega) (by omega)).mono ?_; rintro e w2 ⟨rfl, hb⟩; have HB2 := Aside.mk (below_step HB.out hb); clear hb))
  go_ret
  exact ⟨rfl, HB2.out⟩
end Go.Proofs.Ytjfjpabfkembcaa.H
