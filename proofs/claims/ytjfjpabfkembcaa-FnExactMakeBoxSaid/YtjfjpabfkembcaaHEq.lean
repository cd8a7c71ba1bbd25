/- Two readings of the same are told equal: the walks of the statements' eq functions. -/
import Derived.Test.YtjfjpabfkembcaaProg
import Derived.Test.YtjfjpabfkembcaaHTac
import Derived.StillTailTactics
import Derived.Deep.RegionHeld3
import Derived.Deep.DeepCutAuto
namespace Go.Proofs.Ytjfjpabfkembcaa.H
open Go.RowKit
set_option linter.unusedVariables false
set_option linter.unusedSimpArgs false

def RetT (w : World) (e : Ending) (w' : World) : Prop := e = .returned (.bool true) ∧ Below w.heap.size w w'

set_option maxHeartbeats 2000000 in
set_option maxRecDepth 100000 in
theorem eqStamp_calls (w : World) (t b : Int) : Calls Try.prog 79 #[.agg #[.int .i64 t, .int .i64 b], .agg #[.int .i64 t, .int .i64 b]] w (RetT w) := by
  go_enter Try.func79, Try.ntmps79
  go_wp2
  go_ret
  exact ⟨rfl, below_alloc (below_alloc (Below.refl _ _) _) _⟩
set_option maxHeartbeats 2000000 in
set_option maxRecDepth 100000 in
theorem eqReg_calls (w : World) (r : Reg) : Calls Try.prog 166 #[.agg #[.int .i64 r.v, .int .i64 r.t, .int .i64 r.b], .agg #[.int .i64 r.v, .int .i64 r.t, .int .i64 r.b]] w (RetT w) := by
  go_enter Try.func166, Try.ntmps166
  go_wp2_with (go_at_call 79; refine (eqStamp_calls _ _ _).mono ?_; rintro e w' ⟨rfl, hb⟩; have HB := Aside.mk (below_step (below_alloc (below_alloc (Below.refl _ _) _) _) hb); clear hb)
  go_ret
  exact ⟨rfl, HB.out⟩
set_option maxHeartbeats 2000000 in
set_option maxRecDepth 100000 in
theorem eqRegs_calls (w : World) (v1 v2 : Value) (l : List Reg) (h1 : rdRegs w v1 l) (h2 : rdRegs w v2 l) : Calls Try.prog 108 #[v1, v2] w (RetT w) := by
  obtain ⟨A1, c1, rfl, _, hm⟩ := rd_len h1
  obtain ⟨A2, c2, rfl, _, _⟩ := rd_len h2
  have HR1 := Aside.mk h1
  have HR2 := Aside.mk h2
  clear h1 h2
  go_enter Try.func108, Try.ntmps108
  go_wp2
  go_loopw [5] (fun v wr => ∃ i : Nat, i ≤ l.length ∧ v = .int .i64 i ∧ Aside (Below w.heap.size w wr)) (fun v _ => l.length - (intOf v).toNat)
  case atStart => exact ⟨0, Nat.zero_le _, rfl, ⟨Below.refl _ _⟩⟩
  case round =>
    obtain ⟨i, hi, rfl, HB⟩ := hrel
    by_cases hlt : i < l.length
    · obtain ⟨a1, e1, x0, x1, x2⟩ := rdRegs_at (rdRegs_mov HB.out HR1.out) i hlt
      obtain ⟨a2, e2, y0, y1, y2⟩ := rdRegs_at (rdRegs_mov HB.out HR2.out) i hlt
      subst e1 e2
      generalize l[i] = m at x0 x1 x2 y0 y1 y2
      have q0 : (0 : Int) ≤ (i : Int) := by omega
      have q1 : (i : Int) < (l.length : Int) := by omega
      go_wp2
      go_region_held3 (fun w' => w'.cell? (a1.add (i * 3)) = some (.int .i64 m.v) ∧ w'.cell? ⟨(a1.add (i * 3)).block, (a1.add (i * 3)).off + 1, none⟩ = some (.int .i64 m.t) ∧ w'.cell? ⟨(a1.add (i * 3)).block, (a1.add (i * 3)).off + 2, none⟩ = some (.int .i64 m.b) ∧ w'.cell? (a2.add (i * 3)) = some (.int .i64 m.v) ∧ w'.cell? ⟨(a2.add (i * 3)).block, (a2.add (i * 3)).off + 1, none⟩ = some (.int .i64 m.t) ∧ w'.cell? ⟨(a2.add (i * 3)).block, (a2.add (i * 3)).off + 2, none⟩ = some (.int .i64 m.b)) ((repeat' apply And.intro) <;> (first | (refine cell_b hb ?_; assumption) | go_keep))
        ((go_at_call 166; refine (eqReg_calls _ m).mono ?_; rintro e w' ⟨rfl, hb⟩))
      have HB2 := Aside.mk (below_step (below_drew HB.out) hb)
      clear hb
      go_wp2
      go_roundw
      case rel => exact ⟨i + 1, by omega, by go_num, HB2⟩
      case measure => simp [intOf]; omega
    · obtain rfl : i = l.length := by omega
      clear hlt
      go_wp2
      go_ret
      exact ⟨rfl, HB.out⟩
set_option maxHeartbeats 2000000 in
set_option maxRecDepth 100000 in
theorem eqMail_calls (w : World) (f1 f2 : Value) (m : Mail) (h1 : rdRegs w f1 m.fl) (h2 : rdRegs w f2 m.fl) :
    Calls Try.prog 29 #[.agg #[.int .i64 m.g, .int .i64 m.u, f1, .string m.tx], .agg #[.int .i64 m.g, .int .i64 m.u, f2, .string m.tx]] w (RetT w) := by
  have HR1 := Aside.mk h1
  have HR2 := Aside.mk h2
  have o1 := rd_one h1
  have o2 := rd_one h2
  clear h1 h2
  go_enter Try.func29, Try.ntmps29
  go_wp2_with (go_at_call 108; refine (eqRegs_calls _ _ _ m.fl (rdRegs_mov (below_alloc (below_alloc (Below.refl _ _) _) _) HR1.out) (rdRegs_mov (below_alloc (below_alloc (Below.refl _ _) _) _) HR2.out)).mono ?_; rintro e w' ⟨rfl, hb⟩; have z1 := cell_b (p := ⟨w.heap.size, 3, none⟩) hb (v := .string m.tx) (by simp); have z2 := cell_b (p := ⟨w.heap.size + 1, 3, none⟩) hb (v := .string m.tx) (by simp); have HB := Aside.mk (below_step (below_alloc (below_alloc (Below.refl _ _) _) _) hb); clear hb)
  go_ret
  exact ⟨rfl, HB.out⟩
set_option maxHeartbeats 2000000 in
set_option maxRecDepth 100000 in
theorem eqMails_calls (w : World) (v1 v2 : Value) (l : List Mail) (h1 : rdMails w v1 l) (h2 : rdMails w v2 l) : Calls Try.prog 80 #[v1, v2] w (RetT w) := by
  obtain ⟨A1, c1, rfl, _, hm⟩ := rd_len h1
  obtain ⟨A2, c2, rfl, _, _⟩ := rd_len h2
  have HR1 := Aside.mk h1
  have HR2 := Aside.mk h2
  clear h1 h2
  go_enter Try.func80, Try.ntmps80
  go_wp2
  go_loopw [5] (fun v wr => ∃ i : Nat, i ≤ l.length ∧ v = .int .i64 i ∧ Aside (Below w.heap.size w wr)) (fun v _ => l.length - (intOf v).toNat)
  case atStart => exact ⟨0, Nat.zero_le _, rfl, ⟨Below.refl _ _⟩⟩
  case round =>
    obtain ⟨i, hi, rfl, HB⟩ := hrel
    by_cases hlt : i < l.length
    · obtain ⟨a1, f1, e1, x0, x1, x2, x3, hf1⟩ := rdMails_at (rdMails_mov HB.out HR1.out) i hlt
      obtain ⟨a2, f2, e2, y0, y1, y2, y3, hf2⟩ := rdMails_at (rdMails_mov HB.out HR2.out) i hlt
      subst e1 e2
      generalize l[i] = m at x0 x1 x2 x3 y0 y1 y2 y3 hf1 hf2
      have o1 := rd_one hf1
      have o2 := rd_one hf2
      have HF1 := Aside.mk hf1
      have HF2 := Aside.mk hf2
      clear hf1 hf2
      have q0 : (0 : Int) ≤ (i : Int) := by omega
      have q1 : (i : Int) < (l.length : Int) := by omega
      go_wp2
      go_region_held3 (fun w' => w'.cell? (a1.add (i * 4)) = some (.int .i64 m.g) ∧ w'.cell? ⟨(a1.add (i * 4)).block, (a1.add (i * 4)).off + 1, none⟩ = some (.int .i64 m.u) ∧ w'.cell? ⟨(a1.add (i * 4)).block, (a1.add (i * 4)).off + 2, none⟩ = some (f1) ∧ w'.cell? ⟨(a1.add (i * 4)).block, (a1.add (i * 4)).off + 3, none⟩ = some (.string m.tx) ∧ w'.cell? (a2.add (i * 4)) = some (.int .i64 m.g) ∧ w'.cell? ⟨(a2.add (i * 4)).block, (a2.add (i * 4)).off + 1, none⟩ = some (.int .i64 m.u) ∧ w'.cell? ⟨(a2.add (i * 4)).block, (a2.add (i * 4)).off + 2, none⟩ = some (f2) ∧ w'.cell? ⟨(a2.add (i * 4)).block, (a2.add (i * 4)).off + 3, none⟩ = some (.string m.tx)) ((repeat' apply And.intro) <;> (first | (refine cell_b hb ?_; assumption) | go_keep))
        ((go_at_call 29; refine (eqMail_calls _ _ _ m (rdRegs_mov (below_drew (Below.refl _ _)) HF1.out) (rdRegs_mov (below_drew (Below.refl _ _)) HF2.out)).mono ?_; rintro e w' ⟨rfl, hb⟩))
      have HB2 := Aside.mk (below_step (below_drew HB.out) hb)
      clear hb
      go_wp2
      go_roundw
      case rel => exact ⟨i + 1, by omega, by go_num, HB2⟩
      case measure => simp [intOf]; omega
    · obtain rfl : i = l.length := by omega
      clear hlt
      go_wp2
      go_ret
      exact ⟨rfl, HB.out⟩
set_option maxHeartbeats 2000000 in
set_option maxRecDepth 100000 in
theorem eqInts_calls (w : World) (v1 v2 : Value) (l : List Int) (h1 : rdInts w v1 l) (h2 : rdInts w v2 l) : Calls Try.prog 81 #[v1, v2] w (RetT w) := by
  obtain ⟨A1, c1, rfl, _, hm⟩ := rd_len h1
  obtain ⟨A2, c2, rfl, _, _⟩ := rd_len h2
  have HR1 := Aside.mk h1
  have HR2 := Aside.mk h2
  clear h1 h2
  go_enter Try.func81, Try.ntmps81
  go_wp2
  go_loopw [5] (fun v wr => ∃ i : Nat, i ≤ l.length ∧ v = .int .i64 i ∧ Aside (Below w.heap.size w wr)) (fun v _ => l.length - (intOf v).toNat)
  case atStart => exact ⟨0, Nat.zero_le _, rfl, ⟨Below.refl _ _⟩⟩
  case round =>
    obtain ⟨i, hi, rfl, HB⟩ := hrel
    by_cases hlt : i < l.length
    · obtain ⟨a1, e1, x0⟩ := rdInts_at (rdInts_mov HB.out HR1.out) i hlt
      obtain ⟨a2, e2, y0⟩ := rdInts_at (rdInts_mov HB.out HR2.out) i hlt
      subst e1 e2
      generalize l[i] = m at x0 y0
      have q0 : (0 : Int) ≤ (i : Int) := by omega
      have q1 : (i : Int) < (l.length : Int) := by omega
      go_wp2
      go_region_held3 (fun w' => w'.cell? (a1.add i) = some (.int .i64 m) ∧ w'.cell? (a2.add i) = some (.int .i64 m)) (go_keep) (fail)
      go_wp2
      go_roundw
      case rel => exact ⟨i + 1, by omega, by go_num, ⟨below_drew HB.out⟩⟩
      case measure => simp [intOf]; omega
    · obtain rfl : i = l.length := by omega
      clear hlt
      go_wp2
      go_ret
      exact ⟨rfl, HB.out⟩
set_option maxHeartbeats 2000000 in
set_option maxRecDepth 100000 in
theorem eqBox_calls (w : World) (f1 g1 f2 g2 : Value) (b : Box) (h1 : rdMails w f1 b.ml) (k1 : rdInts w g1 b.go) (h2 : rdMails w f2 b.ml) (k2 : rdInts w g2 b.go) :
    Calls Try.prog 15 #[.agg #[.int .i64 b.g, .string b.nm, .int .i64 b.t, .int .i64 b.b, .int .i64 b.nx, f1, g1], .agg #[.int .i64 b.g, .string b.nm, .int .i64 b.t, .int .i64 b.b, .int .i64 b.nx, f2, g2]] w (RetT w) := by
  have HR1 := Aside.mk h1
  have HR2 := Aside.mk h2
  have HG1 := Aside.mk k1
  have HG2 := Aside.mk k2
  have o1 := rd_one h1
  have o2 := rd_one h2
  have p1 := rd_one k1
  have p2 := rd_one k2
  clear h1 h2 k1 k2
  go_enter Try.func15, Try.ntmps15
  go_wp2_with (first
    | (go_at_call 79; refine (eqStamp_calls _ _ _).mono ?_; rintro e w1 ⟨rfl, hb⟩; have z4 := cell_b (p := ⟨w.heap.size, 4, none⟩) hb (v := .int .i64 b.nx) (by simp); have y4 := cell_b (p := ⟨w.heap.size + 1, 4, none⟩) hb (v := .int .i64 b.nx) (by simp); have z5 := cell_b (p := ⟨w.heap.size, 5, none⟩) hb (v := f1) (by simp); have y5 := cell_b (p := ⟨w.heap.size + 1, 5, none⟩) hb (v := f2) (by simp); have z6 := cell_b (p := ⟨w.heap.size, 6, none⟩) hb (v := g1) (by simp); have y6 := cell_b (p := ⟨w.heap.size + 1, 6, none⟩) hb (v := g2) (by simp); have HB := Aside.mk (below_step (below_alloc (below_alloc (Below.refl _ _) _) _) hb); clear hb)
    | (go_at_call 80; refine (eqMails_calls _ _ _ b.ml (rdMails_mov HB.out HR1.out) (rdMails_mov HB.out HR2.out)).mono ?_; rintro e w2 ⟨rfl, hb⟩; replace z6 := cell_b hb z6; replace y6 := cell_b hb y6; have HB2 := Aside.mk (below_step HB.out hb); clear hb)
    | (go_at_call 81; refine (eqInts_calls _ _ _ b.go (rdInts_mov HB2.out HG1.out) (rdInts_mov HB2.out HG2.out)).mono ?_; rintro e w3 ⟨rfl, hb⟩; have HB3 := Aside.mk (below_step HB2.out hb); clear hb))
  go_ret
  exact ⟨rfl, HB3.out⟩
set_option maxHeartbeats 2000000 in
set_option maxRecDepth 100000 in
theorem eqBoxes_calls (w : World) (v1 v2 : Value) (l : List Box) (h1 : rdBoxes w v1 l) (h2 : rdBoxes w v2 l) : Calls Try.prog 100 #[v1, v2] w (RetT w) := by
  obtain ⟨A1, c1, rfl, _, hm⟩ := rd_len h1
  obtain ⟨A2, c2, rfl, _, _⟩ := rd_len h2
  have HR1 := Aside.mk h1
  have HR2 := Aside.mk h2
  clear h1 h2
  go_enter Try.func100, Try.ntmps100
  go_wp2
  go_loopw [5] (fun v wr => ∃ i : Nat, i ≤ l.length ∧ v = .int .i64 i ∧ Aside (Below w.heap.size w wr)) (fun v _ => l.length - (intOf v).toNat)
  case atStart => exact ⟨0, Nat.zero_le _, rfl, ⟨Below.refl _ _⟩⟩
  case round =>
    obtain ⟨i, hi, rfl, HB⟩ := hrel
    by_cases hlt : i < l.length
    · obtain ⟨a1, f1, g1, e1, x0, x1, x2, x3, x4, x5, x6, hf1, hg1⟩ := rdBoxes_at (rdBoxes_mov HB.out HR1.out) i hlt
      obtain ⟨a2, f2, g2, e2, y0, y1, y2, y3, y4, y5, y6, hf2, hg2⟩ := rdBoxes_at (rdBoxes_mov HB.out HR2.out) i hlt
      subst e1 e2
      generalize l[i] = m at x0 x1 x2 x3 x4 x5 x6 y0 y1 y2 y3 y4 y5 y6 hf1 hf2 hg1 hg2
      have o1 := rd_one hf1
      have o2 := rd_one hf2
      have p1 := rd_one hg1
      have p2 := rd_one hg2
      have HF1 := Aside.mk hf1
      have HF2 := Aside.mk hf2
      have HG1 := Aside.mk hg1
      have HG2 := Aside.mk hg2
      clear hf1 hf2 hg1 hg2
      have q0 : (0 : Int) ≤ (i : Int) := by omega
      have q1 : (i : Int) < (l.length : Int) := by omega
      go_wp2
      go_region_held3 (fun w' => w'.cell? (a1.add (i * 7)) = some (.int .i64 m.g) ∧ w'.cell? ⟨(a1.add (i * 7)).block, (a1.add (i * 7)).off + 1, none⟩ = some (.string m.nm) ∧ w'.cell? ⟨(a1.add (i * 7)).block, (a1.add (i * 7)).off + 2, none⟩ = some (.int .i64 m.t) ∧ w'.cell? ⟨(a1.add (i * 7)).block, (a1.add (i * 7)).off + 3, none⟩ = some (.int .i64 m.b) ∧ w'.cell? ⟨(a1.add (i * 7)).block, (a1.add (i * 7)).off + 4, none⟩ = some (.int .i64 m.nx) ∧ w'.cell? ⟨(a1.add (i * 7)).block, (a1.add (i * 7)).off + 5, none⟩ = some (f1) ∧ w'.cell? ⟨(a1.add (i * 7)).block, (a1.add (i * 7)).off + 6, none⟩ = some (g1) ∧ w'.cell? (a2.add (i * 7)) = some (.int .i64 m.g) ∧ w'.cell? ⟨(a2.add (i * 7)).block, (a2.add (i * 7)).off + 1, none⟩ = some (.string m.nm) ∧ w'.cell? ⟨(a2.add (i * 7)).block, (a2.add (i * 7)).off + 2, none⟩ = some (.int .i64 m.t) ∧ w'.cell? ⟨(a2.add (i * 7)).block, (a2.add (i * 7)).off + 3, none⟩ = some (.int .i64 m.b) ∧ w'.cell? ⟨(a2.add (i * 7)).block, (a2.add (i * 7)).off + 4, none⟩ = some (.int .i64 m.nx) ∧ w'.cell? ⟨(a2.add (i * 7)).block, (a2.add (i * 7)).off + 5, none⟩ = some (f2) ∧ w'.cell? ⟨(a2.add (i * 7)).block, (a2.add (i * 7)).off + 6, none⟩ = some (g2)) ((repeat' apply And.intro) <;> (first | (refine cell_b hb ?_; assumption) | go_keep))
        ((go_at_call 15; refine (eqBox_calls _ _ _ _ _ m (rdMails_mov (below_drew (Below.refl _ _)) HF1.out) (rdInts_mov (below_drew (Below.refl _ _)) HG1.out) (rdMails_mov (below_drew (Below.refl _ _)) HF2.out) (rdInts_mov (below_drew (Below.refl _ _)) HG2.out)).mono ?_; rintro e w' ⟨rfl, hb⟩))
      have HB2 := Aside.mk (below_step (below_drew HB.out) hb)
      clear hb
      go_wp2
      go_roundw
      case rel => exact ⟨i + 1, by omega, by go_num, HB2⟩
      case measure => simp [intOf]; omega
    · obtain rfl : i = l.length := by omega
      clear hlt
      go_wp2
      go_ret
      exact ⟨rfl, HB.out⟩
set_option maxHeartbeats 2000000 in
set_option maxRecDepth 100000 in
theorem eqStore_calls (w : World) (f1 g1 f2 g2 : Value) (s : Store) (h1 : rdBoxes w f1 s.bx) (k1 : rdInts w g1 s.go) (h2 : rdBoxes w f2 s.bx) (k2 : rdInts w g2 s.go) :
    Calls Try.prog 22 #[.agg #[.int .i64 s.by_, .int .i64 s.tm, f1, g1], .agg #[.int .i64 s.by_, .int .i64 s.tm, f2, g2]] w (RetT w) := by
  have HR1 := Aside.mk h1
  have HR2 := Aside.mk h2
  have HG1 := Aside.mk k1
  have HG2 := Aside.mk k2
  have o1 := rd_one h1
  have o2 := rd_one h2
  have p1 := rd_one k1
  have p2 := rd_one k2
  clear h1 h2 k1 k2
  go_enter Try.func22, Try.ntmps22
  go_wp2_with (first
    | (go_at_call 100; refine (eqBoxes_calls _ _ _ s.bx (rdBoxes_mov (below_alloc (below_alloc (Below.refl _ _) _) _) HR1.out) (rdBoxes_mov (below_alloc (below_alloc (Below.refl _ _) _) _) HR2.out)).mono ?_; rintro e w2 ⟨rfl, hb⟩; have z6 := cell_b (p := ⟨w.heap.size, 3, none⟩) hb (v := g1) (by simp); have y6 := cell_b (p := ⟨w.heap.size + 1, 3, none⟩) hb (v := g2) (by simp); have HB2 := Aside.mk (below_step (below_alloc (below_alloc (Below.refl _ _) _) _) hb); clear hb)
    | (go_at_call 81; refine (eqInts_calls _ _ _ s.go (rdInts_mov HB2.out HG1.out) (rdInts_mov HB2.out HG2.out)).mono ?_; rintro e w3 ⟨rfl, hb⟩; have HB3 := Aside.mk (below_step HB2.out hb); clear hb))
  go_ret
  exact ⟨rfl, HB3.out⟩
end Go.Proofs.Ytjfjpabfkembcaa.H
