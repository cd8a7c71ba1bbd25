/- What the statements' to functions make: the walks. -/
import Derived.Test.YtjfjpabfkembcaaProg
import Derived.Test.YtjfjpabfkembcaaHTac
import Derived.Laws.MakeOwn
import Derived.Laws.Entries
namespace Go.Proofs.Ytjfjpabfkembcaa.H
open Go.RowKit
set_option linter.unusedVariables false
set_option linter.unusedSimpArgs false

theorem run_make_rowN {P : Program} (t e : TypeId) (i : TypeInfo) (z : Value) (ht : P.underlying t = some (.slice e)) (hi : P.info? e = some i) (hz : i.zero = some z)
    (kl kc : IntKind) (n c : Nat) (hnc : n ≤ c) (hbytes : i.bytes * c ≤ 281474976710656) (h63 : c ≤ 9223372036854775807) (w : World) :
    (Instr.makeSlice t (.int kl (n : Int)) (.int kc (c : Int))).run P w = .ok (.slice (some ⟨w.heap.size, 0, none⟩) n c) (w.alloc (.cells (madeCells z.cells (c * i.size)) e)) := by
  have hb : (i.bytes : Int) * (c : Int) ≤ 281474976710656 := by
    have h : ((i.bytes * c : Nat) : Int) ≤ 281474976710656 := by omega
    rwa [Int.natCast_mul] at h
  have hr := run_make (P := P) w t e i z ht hi hz kl kc n c (by omega) (by omega) hb (by omega)
  simp only [Int.toNat_natCast] at hr
  exact hr

theorem madeCells_list (z : List Value) (n : Nat) (hz : 0 < z.length) : (madeCells z.toArray (n * z.length)).toList = (List.replicate n z).flatten := by
  have h0 : ∀ m, (madeCells z.toArray m).toList = (List.range m).map (fun i => z[i % z.length]!) := fun m => by simp [madeCells]
  rw [h0]
  induction n with
  | zero => simp
  | succ n ih =>
    rw [Nat.succ_mul, List.range_add, List.map_append, ih, List.replicate_succ', List.flatten_append]
    congr 1
    simp only [List.flatten_cons, List.flatten_nil, List.append_nil, List.map_map]
    apply List.ext_getElem
    · simp
    · intro j h1 h2
      simp only [List.getElem_map, List.getElem_range, Function.comp]
      have : (n * z.length + j) % z.length = j := by
        rw [Nat.mul_comm, Nat.mul_add_mod]
        exact Nat.mod_eq_of_lt h2
      rw [this]
      simp [h2]
theorem owEl_rep {α : Type} {R : List Nat → List Value → α → Prop} {z : List Value} {x : α} (h : R [] z x) : ∀ n, owEl R [] (List.replicate n z).flatten (List.replicate n x)
  | 0 => ⟨rfl, by simp⟩
  | n + 1 => ⟨[], [], z, _, rfl, by simp [List.replicate_succ], h, owEl_rep h n⟩
/-- What make makes. -/
theorem owRow_made {α : Type} {e sz : Nat} {R : World → List Nat → List Value → α → Prop} {K : World → List Value → α → Prop} (o : Ow sz R K) (w : World) (n : Nat) (z : List Value) (x : α) (h : ∀ w, R w [] z x) (hz : 0 < sz) (hm : n ≤ maxLen) :
    owRow e sz R (w.alloc (.cells (madeCells z.toArray (n * sz)) e)) [w.heap.size] (.slice (some ⟨w.heap.size, 0, none⟩) n n) (List.replicate n x) := by
  have hl := o.len (h w)
  have hr := World.ownsRow_lit (base := 0) (e := e) w (madeCells z.toArray (n * sz)) n (Nat.zero_le _) hm (size_madeCells _ _)
  refine ⟨(madeCells z.toArray (n * sz)).toList, [], by rw [List.length_replicate]; exact hr, by simp [Value.ownBlock], ?_⟩
  rw [← hl, madeCells_list z n (by omega)]
  exact owEl_rep (h _) n
/-- The row of a loop that fills what make made. -/
theorem fill_set {α : Type} {l : List α} {z : α} {i : Nat} (h : i < l.length) : (l.take i ++ List.replicate (l.length - i) z).set i l[i] = l.take (i + 1) ++ List.replicate (l.length - (i + 1)) z := by
  have h1 : (l.take i).length = i := by rw [List.length_take]; omega
  rw [List.set_append_right _ _ (by omega), h1, Nat.sub_self, show l.length - i = (l.length - (i + 1)) + 1 by omega, List.replicate_succ, List.set_cons_zero, List.take_succ_eq_append_getElem h, List.append_assoc]
  rfl

set_option maxHeartbeats 2000000 in
set_option maxRecDepth 100000 in
theorem toStamp_calls (w : World) (t b : Int) : Calls Try.prog 73 #[.agg #[.int .i64 t, .int .i64 b]] w fun e w' => e = .returned (.agg #[.int .i64 t, .int .i64 b]) ∧ Below w.heap.size w w' := by
  go_enter Try.func73, Try.ntmps73
  go_wp2
  refine bodyPost_ret (v := .agg #[.int .i64 t, .int .i64 b]) (by simp [results, go_sem]) rfl ⟨rfl, ?_⟩
  exact below_alloc (below_alloc (below_alloc (Below.refl _ _) _) _) _
set_option maxHeartbeats 2000000 in
set_option maxRecDepth 100000 in
theorem toReg_calls (w : World) (r : Reg) : Calls Try.prog 165 #[.agg #[.int .i64 r.v, .int .i64 r.t, .int .i64 r.b]] w fun e w' => e = .returned (.agg #[.int .i64 r.v, .int .i64 r.t, .int .i64 r.b]) ∧ Below w.heap.size w w' := by
  go_enter Try.func165, Try.ntmps165
  go_wp2_with (go_at_call 73; refine (toStamp_calls _ _ _).mono ?_; rintro e w' ⟨rfl, hb⟩; obtain ⟨hc, hf⟩ := bcell hb; have hz : w.heap.size + 3 ≤ w'.heap.size := (by have := hb.size; simp at this; omega); have HB := Aside.mk (below_step (below_alloc (below_alloc (below_alloc (Below.refl _ _) _) _) _) hb); clear hb)
  refine bodyPost_ret (v := .agg #[.int .i64 r.v, .int .i64 r.t, .int .i64 r.b]) (by simp [results, go_sem, hc, hz]) rfl ⟨rfl, ?_⟩
  (repeat (first | (with_reducible exact HB.out) | (with_reducible exact Below.refl _ _) | (with_reducible refine below_set ?_ (by first | omega | (dsimp only; omega) | (simp; done) | (simp; omega)) _) | (with_reducible refine below_alloc ?_ _) | (with_reducible refine below_drewN ?_ _) | (with_reducible refine below_drew ?_)))
set_option maxHeartbeats 2000000 in
set_option maxRecDepth 100000 in
theorem toRegs_calls (w : World) (v : Value) (l : List Reg) (h : rdRegs w v l) (hl : l.length ≤ 4000000) :
    Calls Try.prog 106 #[v] w fun e w' => ∃ v' D, e = .returned v' ∧ owRegs w' D v' l ∧ New w w' D ∧ Below w.heap.size w w' := by
  obtain ⟨A, c, rfl, _, hm⟩ := rd_len h
  have HR := Aside.mk h
  clear h
  obtain ⟨i0, hi, hz0, hz1, hz2⟩ := info_parts (show (Try.prog.info? 136).map (fun i => (i.zero, i.size, i.bytes)) = some (some (.agg #[.int .i64 0, .int .i64 0, .int .i64 0]), 3, 24) by kernel_rfl)
  have hmk := fun W => run_make_rowN (P := Try.prog) 56 136 i0 _ Try.underlying56 hi hz0 .i64 .i64 l.length l.length (Nat.le_refl _) (by rw [hz2]; omega) (by omega) W
  rw [hz1] at hmk
  go_enter Try.func106, Try.ntmps106
  go_wp2
  clear hmk
  have hH : w.heap.size < (w.alloc (.cells (madeCells #[Value.int .i64 0, .int .i64 0, .int .i64 0] (l.length * 3)) 136)).heap.size := by simp
  have HO := Aside.mk (owRow_made (e := 136) ow_reg w l.length [Value.int .i64 0, .int .i64 0, .int .i64 0] ⟨0, 0, 0⟩ (fun _ => ⟨rfl, rfl⟩) (by omega) (by unfold maxLen; omega))
  have HB := Aside.mk (below_alloc (Below.refl w.heap.size w) (.cells (madeCells #[Value.int .i64 0, .int .i64 0, .int .i64 0] (l.length * 3)) 136))
  go_loopw [4] (fun v wr => ∃ (i : Nat) (D : List Nat), i ≤ l.length ∧ v = .int .i64 i ∧ Aside (owRegs wr D (.slice (some ⟨w.heap.size, 0, none⟩) l.length l.length) (l.take i ++ List.replicate (l.length - i) ⟨0, 0, 0⟩)) ∧ Aside (New w wr D) ∧ Aside (Below w.heap.size w wr)) (fun v _ => l.length - (intOf v).toNat)
  case atStart => exact ⟨0, _, Nat.zero_le _, rfl, HO, ⟨by simp, by simp⟩, HB⟩
  case round =>
    clear HO HB hH
    obtain ⟨i, D, hi, rfl, HO, HN, HB⟩ := hrel
    by_cases hlt : i < l.length
    · obtain ⟨ad, hA, x0, x1, x2⟩ := rdRegs_at (rdRegs_mov HB.out HR.out) i hlt
      subst hA
      have hft : i < (l.take i ++ List.replicate (l.length - i) (⟨0, 0, 0⟩ : Reg)).length := by rw [List.length_append, List.length_replicate, List.length_take]; omega
      obtain ⟨g, c', hv, hg1, hg2, hcell, hfr, F⟩ := owRow_put ow_reg HO.out HN.out i hft (by omega) HB.out.size
      obtain rfl := slice_g hv
      clear hv
      obtain ⟨z0, y0⟩ := hcell 0 (by omega)
      obtain ⟨z1, y1⟩ := hcell 1 (by omega)
      obtain ⟨z2, y2⟩ := hcell 2 (by omega)
      have f0 := hfr (i * 3 + 0)
      have f1 := hfr (i * 3 + 1)
      have f2 := hfr (i * 3 + 2)
      have HF := Aside.mk F
      have HS := Aside.mk (fill_set (z := (⟨0, 0, 0⟩ : Reg)) hlt)
      clear F hcell hfr hft hg1
      have q0 : (0 : Int) ≤ (i : Int) := by omega
      have q1 : (i : Int) < (l.length : Int) := by omega
      rw [Nat.add_zero] at y0 f0
      generalize l[i] = m at x0 x1 x2 HS
      go_wp2_with (go_at_call 165; refine (toReg_calls _ m).mono ?_; rintro e w1 ⟨rfl, hb⟩; replace y0 := cell_b hb y0; replace y1 := cell_b hb y1; replace y2 := cell_b hb y2; rw [← hb.frozen (by assumption)] at f0 f1 f2; have HB1 := Aside.mk hb; clear hb)
      obtain ⟨D', HO', HN'⟩ := HF.out w1 [] [.int .i64 m.v, .int .i64 m.t, .int .i64 m.b] m HB1.out ⟨rfl, rfl⟩ New.nil
      have HB2 : Aside (Below w.heap.size w (sets w1 w.heap.size (i * 3) [.int .i64 m.v, .int .i64 m.t, .int .i64 m.b])) := ⟨(below_step HB.out HB1.out).trans ((sets_keep _ _ _ _).below (by simp) (below_step HB.out HB1.out).size)⟩
      go_roundw
      case rel => exact ⟨i + 1, D', by omega, by go_num, ⟨by rw [← HS.out]; exact HO'⟩, ⟨HN'⟩, HB2⟩
      case measure => simp [intOf]; omega
    · obtain rfl : i = l.length := by omega
      clear hlt
      go_wp2
      go_ret
      exact ⟨_, D, rfl, by have := HO.out; rw [Nat.sub_self, List.replicate_zero, List.append_nil, List.take_length] at this; exact this, HN.out, HB.out⟩

def RetMail (w : World) (m : Mail) (e : Ending) (w' : World) : Prop := ∃ fv D, e = .returned (.agg #[.int .i64 m.g, .int .i64 m.u, fv, .string m.tx]) ∧ owRegs w' D fv m.fl ∧ New w w' D ∧ Below w.heap.size w w'
set_option maxHeartbeats 2000000 in
set_option maxRecDepth 100000 in
theorem toMail_calls (w : World) (fv : Value) (m : Mail) (h : rdRegs w fv m.fl) (hl : m.fl.length ≤ 4000000) :
    Calls Try.prog 27 #[.agg #[.int .i64 m.g, .int .i64 m.u, fv, .string m.tx]] w (RetMail w m) := by
  have HR := Aside.mk h
  have o1 := rd_one h
  clear h
  go_enter Try.func27, Try.ntmps27
  go_wp2_with (go_at_call 106; refine (toRegs_calls _ _ m.fl (rdRegs_mov (by (repeat (first | (with_reducible exact HB.out) | (with_reducible exact Below.refl _ _) | (with_reducible refine below_set ?_ (by first | omega | (dsimp only; omega) | (simp; done) | (simp; omega)) _) | (with_reducible refine below_alloc ?_ _) | (with_reducible refine below_drewN ?_ _) | (with_reducible refine below_drew ?_)))) HR.out) hl).mono ?_; rintro e w' ⟨v', D, rfl, ho, hn, hb⟩; obtain ⟨hc, hf⟩ := bcell hb; have hz : w.heap.size + 3 ≤ w'.heap.size := (by have := hb.size; simp at this; omega); obtain ⟨A', c', rfl, _, _⟩ := rd_len (owRow_rd ow_reg ho); have HB := Aside.mk (below_step (w0 := w) (by (repeat (first | (with_reducible exact HB.out) | (with_reducible exact Below.refl _ _) | (with_reducible refine below_set ?_ (by first | omega | (dsimp only; omega) | (simp; done) | (simp; omega)) _) | (with_reducible refine below_alloc ?_ _) | (with_reducible refine below_drewN ?_ _) | (with_reducible refine below_drew ?_)))) hb); have HO := Aside.mk ho; have HD : Aside (∀ b ∈ D, w.heap.size + 3 ≤ b) := ⟨fun b hb => by have := (hn.2 b hb).1; simp at this; omega⟩; have HN := Aside.mk (hn.from (w0 := w) (by simp; omega)); clear hb ho hn)
  refine bodyPost_ret (v := .agg #[.int .i64 m.g, .int .i64 m.u, .slice A' m.fl.length c', .string m.tx]) (by simp [results, go_sem, hc, hz]) rfl ⟨_, D, rfl, ?_, ?_, ?_⟩
  · (repeat (first | (with_reducible exact HO.out) | (with_reducible refine owRow_far ow_reg (w.heap.size + 3) ?_ HD.out (by first | omega | (dsimp only; omega) | (simp; done) | (simp; omega)) _) | (with_reducible refine owRow_alloc ow_reg ?_ _)))
  · (repeat (first | (with_reducible exact HN.out) | (with_reducible refine New.set ?_ _ _) | (with_reducible refine New.alloc ?_ _) | (with_reducible refine New.drew ?_)))
  · (repeat (first | (with_reducible exact HB.out) | (with_reducible exact Below.refl _ _) | (with_reducible refine below_set ?_ (by first | omega | (dsimp only; omega) | (simp; done) | (simp; omega)) _) | (with_reducible refine below_alloc ?_ _) | (with_reducible refine below_drewN ?_ _) | (with_reducible refine below_drew ?_)))
theorem ow_nil {α : Type} (e sz : Nat) (R : World → List Nat → List Value → α → Prop) (w : World) : owRow e sz R w [] (.slice none 0 0) [] := ⟨[], [], World.ownsRow_nil _ _ _ _, rfl, rfl, rfl⟩
set_option maxHeartbeats 2000000 in
set_option maxRecDepth 100000 in
theorem toMails_calls (w : World) (v : Value) (l : List Mail) (h : rdMails w v l) (hl : l.length ≤ 4000000) (hs : ∀ m ∈ l, m.fl.length ≤ 4000000) :
    Calls Try.prog 74 #[v] w fun e w' => ∃ v' D, e = .returned v' ∧ owMails w' D v' l ∧ New w w' D ∧ Below w.heap.size w w' := by
  obtain ⟨A, c, rfl, _, hm⟩ := rd_len h
  have HR := Aside.mk h
  have HL := Aside.mk hs
  clear h hs
  obtain ⟨i0, hi, hz0, hz1, hz2⟩ := info_parts (show (Try.prog.info? 58).map (fun i => (i.zero, i.size, i.bytes)) = some (some (.agg #[.int .i64 0, .int .i64 0, .slice none 0 0, .string ⟨#[]⟩]), 4, 56) by kernel_rfl)
  have hmk := fun W => run_make_rowN (P := Try.prog) 30 58 i0 _ Try.underlying30 hi hz0 .i64 .i64 l.length l.length (Nat.le_refl _) (by rw [hz2]; omega) (by omega) W
  rw [hz1] at hmk
  go_enter Try.func74, Try.ntmps74
  go_wp2
  clear hmk hz0 hz1 hz2 hi
  have HO := Aside.mk (owRow_made (e := 58) ow_mail w l.length [Value.int .i64 0, .int .i64 0, .slice none 0 0, .string ⟨#[]⟩] (⟨0, 0, [], ⟨#[]⟩⟩ : Mail) (fun w => ⟨_, rfl, ow_nil _ _ _ _⟩) (by omega) (by unfold maxLen; omega))
  have HB := Aside.mk (below_alloc (Below.refl w.heap.size w) (.cells (madeCells #[Value.int .i64 0, .int .i64 0, .slice none 0 0, .string ⟨#[]⟩] (l.length * 4)) 58))
  go_loopw [4] (fun v wr => ∃ (i : Nat) (D : List Nat), i ≤ l.length ∧ v = .int .i64 i ∧ Aside (owMails wr D (.slice (some ⟨w.heap.size, 0, none⟩) l.length l.length) (l.take i ++ List.replicate (l.length - i) (⟨0, 0, [], ⟨#[]⟩⟩ : Mail))) ∧ Aside (New w wr D) ∧ Aside (Below w.heap.size w wr)) (fun v _ => l.length - (intOf v).toNat)
  case atStart => exact ⟨0, _, Nat.zero_le _, rfl, HO, ⟨by simp, by simp⟩, HB⟩
  case round =>
    clear HO HB
    obtain ⟨i, D, hi, rfl, HO, HN, HB⟩ := hrel
    by_cases hlt : i < l.length
    · obtain ⟨ad, fv, hA, x0, x1, x2, x3, hf⟩ := rdMails_at (rdMails_mov HB.out HR.out) i hlt
      subst hA
      have hft : i < (l.take i ++ List.replicate (l.length - i) (⟨0, 0, [], ⟨#[]⟩⟩ : Mail)).length := by rw [List.length_append, List.length_replicate, List.length_take]; omega
      obtain ⟨g, c', hv, hg1, hg2, hcell, hfr, F⟩ := owRow_put ow_mail HO.out HN.out i hft (by omega) HB.out.size
      obtain rfl := slice_g hv
      clear hv
      obtain ⟨z0, y0⟩ := hcell 0 (by omega)
      obtain ⟨z1, y1⟩ := hcell 1 (by omega)
      obtain ⟨z2, y2⟩ := hcell 2 (by omega)
      obtain ⟨z3, y3⟩ := hcell 3 (by omega)
      have f0 := hfr (i * 4 + 0)
      have f1 := hfr (i * 4 + 1)
      have f2 := hfr (i * 4 + 2)
      have f3 := hfr (i * 4 + 3)
      have HF := Aside.mk F
      have HS := Aside.mk (fill_set (z := (⟨0, 0, [], ⟨#[]⟩⟩ : Mail)) hlt)
      clear F hcell hfr hft hg1
      have q0 : (0 : Int) ≤ (i : Int) := by omega
      have q1 : (i : Int) < (l.length : Int) := by omega
      rw [Nat.add_zero] at y0 f0
      have hlm := HL.out l[i] (List.getElem_mem hlt)
      generalize l[i] = m at x0 x1 x2 x3 hf hlm HS
      have o1 := rd_one hf
      have HF1 := Aside.mk hf
      clear hf
      go_wp2_with (go_at_call 27; refine (toMail_calls _ _ m HF1.out hlm).mono ?_; rintro e w1 ⟨v2, D2, rfl, ho, hn, hb⟩; obtain ⟨A2, c2, rfl, _, _⟩ := rd_len (owRow_rd ow_reg ho); have HO2 := Aside.mk ho; have HN2 := Aside.mk hn; clear ho hn; replace y0 := cell_b hb y0; replace y1 := cell_b hb y1; replace y2 := cell_b hb y2; replace y3 := cell_b hb y3; rw [← hb.frozen (by assumption)] at f0 f1 f2 f3; have HB1 := Aside.mk hb; clear hb)
      obtain ⟨D', HO', HN'⟩ := HF.out w1 D2 [.int .i64 m.g, .int .i64 m.u, .slice A2 m.fl.length c2, .string m.tx] m HB1.out ⟨_, rfl, HO2.out⟩ HN2.out
      have HB2 : Aside (Below w.heap.size w (sets w1 w.heap.size (i * 4) [.int .i64 m.g, .int .i64 m.u, .slice A2 m.fl.length c2, .string m.tx])) := ⟨(below_step HB.out HB1.out).trans ((sets_keep _ _ _ _).below (by simp) (below_step HB.out HB1.out).size)⟩
      go_roundw
      case rel => exact ⟨i + 1, D', by omega, by go_num, ⟨by rw [← HS.out]; exact HO'⟩, ⟨HN'⟩, HB2⟩
      case measure => simp [intOf]; omega
    · obtain rfl : i = l.length := by omega
      clear hlt
      go_wp2
      go_ret
      exact ⟨_, D, rfl, by have := HO.out; rw [Nat.sub_self, List.replicate_zero, List.append_nil, List.take_length] at this; exact this, HN.out, HB.out⟩
set_option maxHeartbeats 2000000 in
set_option maxRecDepth 100000 in
theorem toInts_calls (w : World) (v : Value) (l : List Int) (h : rdInts w v l) (hl : l.length ≤ 4000000) :
    Calls Try.prog 75 #[v] w fun e w' => ∃ v' D, e = .returned v' ∧ owInts w' D v' l ∧ New w w' D ∧ Below w.heap.size w w' := by
  obtain ⟨A, c, rfl, _, hm⟩ := rd_len h
  have HR := Aside.mk h
  clear h
  obtain ⟨i0, hi, hz0, hz1, hz2⟩ := info_parts (show (Try.prog.info? 3).map (fun i => (i.zero, i.size, i.bytes)) = some (some (.int .i64 0), 1, 8) by kernel_rfl)
  have hmk := fun W => run_make_rowN (P := Try.prog) 25 3 i0 _ Try.underlying25 hi hz0 .i64 .i64 l.length l.length (Nat.le_refl _) (by rw [hz2]; omega) (by omega) W
  rw [hz1] at hmk
  go_enter Try.func75, Try.ntmps75
  go_wp2
  clear hmk hz0 hz1 hz2 hi
  have HO0 := owRow_made (e := 3) ow_int w l.length [Value.int .i64 0] 0 (fun _ => ⟨rfl, rfl⟩) (by omega) (by unfold maxLen; omega)
  rw [Nat.mul_one] at HO0
  have HO := Aside.mk HO0
  have HB := Aside.mk (below_alloc (Below.refl w.heap.size w) (.cells (madeCells #[Value.int .i64 0] l.length) 3))
  clear HO0
  go_loopw [4] (fun v wr => ∃ (i : Nat) (D : List Nat), i ≤ l.length ∧ v = .int .i64 i ∧ Aside (owInts wr D (.slice (some ⟨w.heap.size, 0, none⟩) l.length l.length) (l.take i ++ List.replicate (l.length - i) 0)) ∧ Aside (New w wr D) ∧ Aside (Below w.heap.size w wr)) (fun v _ => l.length - (intOf v).toNat)
  case atStart => exact ⟨0, _, Nat.zero_le _, rfl, HO, ⟨by simp, by simp⟩, HB⟩
  case round =>
    clear HO HB
    obtain ⟨i, D, hi, rfl, HO, HN, HB⟩ := hrel
    by_cases hlt : i < l.length
    · obtain ⟨ad, hA, x0⟩ := rdInts_at (rdInts_mov HB.out HR.out) i hlt
      subst hA
      have hft : i < (l.take i ++ List.replicate (l.length - i) (0 : Int)).length := by rw [List.length_append, List.length_replicate, List.length_take]; omega
      obtain ⟨g, c', hv, hg1, hg2, hcell, hfr, F⟩ := owRow_put ow_int HO.out HN.out i hft (by omega) HB.out.size
      obtain rfl := slice_g hv
      clear hv
      rw [Nat.mul_one] at F
      obtain ⟨z0, y0⟩ := hcell 0 (by omega)
      have f0 := hfr i
      rw [Nat.add_zero, Nat.mul_one] at y0
      have HF := Aside.mk F
      have HS := Aside.mk (fill_set (z := (0 : Int)) hlt)
      clear F hcell hfr hft hg1
      have q0 : (0 : Int) ≤ (i : Int) := by omega
      have q1 : (i : Int) < (l.length : Int) := by omega
      generalize l[i] = m at x0 HS
      go_wp2
      obtain ⟨D', HO', HN'⟩ := HF.out wr [] [.int .i64 m] m (Below.refl _ _) ⟨rfl, rfl⟩ New.nil
      have HB2 : Aside (Below w.heap.size w (sets wr w.heap.size i [.int .i64 m])) := ⟨HB.out.trans ((sets_keep _ _ _ _).below (by simp) HB.out.size)⟩
      go_roundw
      case rel => exact ⟨i + 1, D', by omega, by go_num, ⟨by rw [← HS.out]; exact HO'⟩, ⟨HN'⟩, HB2⟩
      case measure => simp [intOf]; omega
    · obtain rfl : i = l.length := by omega
      clear hlt
      go_wp2
      go_ret
      exact ⟨_, D, rfl, by have := HO.out; rw [Nat.sub_self, List.replicate_zero, List.append_nil, List.take_length] at this; exact this, HN.out, HB.out⟩
def smMails (l : List Mail) : Prop := l.length ≤ 4000000 ∧ ∀ m ∈ l, m.fl.length ≤ 4000000
def smBox (b : Box) : Prop := smMails b.ml ∧ b.go.length ≤ 4000000
def smStore (s : Store) : Prop := (s.bx.length ≤ 4000000 ∧ ∀ b ∈ s.bx, smBox b) ∧ s.go.length ≤ 4000000
def RetBox (w : World) (b : Box) (e : Ending) (w' : World) : Prop := ∃ mv gv D, e = .returned (.agg #[.int .i64 b.g, .string b.nm, .int .i64 b.t, .int .i64 b.b, .int .i64 b.nx, mv, gv]) ∧
  owBox w' D [.int .i64 b.g, .string b.nm, .int .i64 b.t, .int .i64 b.b, .int .i64 b.nx, mv, gv] b ∧ New w w' D ∧ Below w.heap.size w w'
def RetStore (w : World) (s : Store) (e : Ending) (w' : World) : Prop := ∃ bv gv D, e = .returned (.agg #[.int .i64 s.by_, .int .i64 s.tm, bv, gv]) ∧ owStore w' D [.int .i64 s.by_, .int .i64 s.tm, bv, gv] s ∧ New w w' D ∧ Below w.heap.size w w'
theorem cell_own {α : Type} {e sz : Nat} {R : World → List Nat → List Value → α → Prop} {K : World → List Value → α → Prop} (o : Ow sz R K) {w : World} {D : List Nat} {v : Value} {l : List α} (h : owRow e sz R w D v l) :
    ∃ A c, v = .slice A l.length c := by
  obtain ⟨A, c, h, _⟩ := rd_len (owRow_rd o h)
  exact ⟨A, c, h⟩
set_option maxHeartbeats 2000000 in
set_option maxRecDepth 100000 in
theorem toBox_calls (w : World) (mv gv : Value) (b : Box) (h : rdMails w mv b.ml) (hg : rdInts w gv b.go) (hl : smBox b) :
    Calls Try.prog 13 #[.agg #[.int .i64 b.g, .string b.nm, .int .i64 b.t, .int .i64 b.b, .int .i64 b.nx, mv, gv]] w (RetBox w b) := by
  have HR := Aside.mk h
  have HG := Aside.mk hg
  have o1 := rd_one h
  have o2 := rd_one hg
  have HL := Aside.mk hl
  clear h hg hl
  go_enter Try.func13, Try.ntmps13
  go_wp2_with (first
    | (go_at_call 73; refine (toStamp_calls _ _ _).mono ?_; rintro e w1 ⟨rfl, hb⟩; obtain ⟨hc, hf⟩ := bcell hb; obtain ⟨z1, z2, z3⟩ := lt3 (show w.heap.size + 3 ≤ w1.heap.size by have := hb.size; simp at this; omega); have HB := Aside.mk (below_step (w0 := w) (by (repeat (first | (with_reducible exact HB.out) | (with_reducible exact Below.refl _ _) | (with_reducible refine below_set ?_ (by first | omega | (dsimp only; omega) | (simp; done) | (simp; omega)) _) | (with_reducible refine below_alloc ?_ _) | (with_reducible refine below_drewN ?_ _) | (with_reducible refine below_drew ?_)))) hb); clear hb)
    | (go_at_call 74; refine (toMails_calls _ _ b.ml (rdMails_mov (by (repeat (first | (with_reducible exact HB.out) | (with_reducible exact Below.refl _ _) | (with_reducible refine below_set ?_ (by first | omega | (dsimp only; omega) | (simp; done) | (simp; omega)) _) | (with_reducible refine below_alloc ?_ _) | (with_reducible refine below_drewN ?_ _) | (with_reducible refine below_drew ?_)))) HR.out) HL.out.1.1 HL.out.1.2).mono ?_; rintro e w2 ⟨v2, D2, rfl, ho, hn, hb⟩; obtain ⟨A2, c2, rfl⟩ := cell_own ow_mail ho; obtain ⟨hc2, hf2⟩ := bcell hb; obtain ⟨y1, y2, y3⟩ := lt3 (show w.heap.size + 3 ≤ w2.heap.size by have := hb.size; simp at this; omega); have HO2 := Aside.mk ho; have HD2 : Aside (∀ b ∈ D2, w.heap.size + 3 ≤ b) := ⟨fun b hb => by have := (hn.2 b hb).1; simp at this; omega⟩; have HN2 := Aside.mk (hn.from (w0 := w) (by have := HB.out.size; simp; omega)); clear ho hn; replace HB := Aside.mk (below_step (w0 := w) (by (repeat (first | (with_reducible exact HB.out) | (with_reducible exact Below.refl _ _) | (with_reducible refine below_set ?_ (by first | omega | (dsimp only; omega) | (simp; done) | (simp; omega)) _) | (with_reducible refine below_alloc ?_ _) | (with_reducible refine below_drewN ?_ _) | (with_reducible refine below_drew ?_)))) hb); clear hb)
    | (go_at_call 75; go_loud (refine (toInts_calls _ _ b.go (rdInts_mov (by (repeat (first | (with_reducible exact HB.out) | (with_reducible exact Below.refl _ _) | (with_reducible refine below_set ?_ (by first | omega | (dsimp only; omega) | (simp; done) | (simp; omega)) _) | (with_reducible refine below_alloc ?_ _) | (with_reducible refine below_drewN ?_ _) | (with_reducible refine below_drew ?_)))) HG.out) HL.out.2).mono ?_; rintro e w3 ⟨v3, D3, rfl, ho, hn, hb⟩; obtain ⟨A3, c3, rfl⟩ := cell_own ow_int ho; obtain ⟨hc3, hf3⟩ := bcell hb; obtain ⟨x1, x2, x3⟩ := lt3 (show w.heap.size + 3 ≤ w3.heap.size by have := hb.size; simp at this; omega); have HO3 := Aside.mk ho; have HD3 : Aside (∀ b ∈ D3, w.heap.size + 3 ≤ b) := ⟨fun b hb => by have := (hn.2 b hb).1; simp at this; omega⟩; have HO4 : Aside (owMails w3 D2 (.slice A2 b.ml.length c2) b.ml) := ⟨owRow_below ow_mail (by (repeat (first | (with_reducible exact HO2.out) | (with_reducible refine owRow_far ow_mail (w.heap.size + 3) ?_ HD2.out (by first | omega | (dsimp only; omega) | (simp; done) | (simp; omega)) _) | (with_reducible refine owRow_alloc ow_mail ?_ _)))) hb⟩; have HN : Aside (New w w3 (D2 ++ D3)) := ⟨New.app (by (repeat (first | (with_reducible exact HN2.out) | (with_reducible refine New.set ?_ _ _) | (with_reducible refine New.alloc ?_ _) | (with_reducible refine New.drew ?_)))) (by have := HB.out.size; simp; omega) hn hb.size⟩; clear ho hn; replace HB := Aside.mk (below_step (w0 := w) (by (repeat (first | (with_reducible exact HB.out) | (with_reducible exact Below.refl _ _) | (with_reducible refine below_set ?_ (by first | omega | (dsimp only; omega) | (simp; done) | (simp; omega)) _) | (with_reducible refine below_alloc ?_ _) | (with_reducible refine below_drewN ?_ _) | (with_reducible refine below_drew ?_)))) hb); clear hb)))
  refine bodyPost_ret (v := .agg #[.int .i64 b.g, .string b.nm, .int .i64 b.t, .int .i64 b.b, .int .i64 b.nx, .slice A2 b.ml.length c2, .slice A3 b.go.length c3]) (by simp [results, go_sem, hc, hc2, hc3, x1, x2, x3, y1, y2, y3, z1, z2, z3]) rfl ⟨_, _, D2 ++ D3, rfl, ⟨_, _, D2, D3, rfl, rfl, ?_, ?_⟩, ?_, ?_⟩
  · (repeat (first | (with_reducible exact HO4.out) | (with_reducible refine owRow_far ow_mail (w.heap.size + 3) ?_ HD2.out (by first | omega | (dsimp only; omega) | (simp; done) | (simp; omega)) _) | (with_reducible refine owRow_alloc ow_mail ?_ _)))
  · (repeat (first | (with_reducible exact HO3.out) | (with_reducible refine owRow_far ow_int (w.heap.size + 3) ?_ HD3.out (by first | omega | (dsimp only; omega) | (simp; done) | (simp; omega)) _) | (with_reducible refine owRow_alloc ow_int ?_ _)))
  · (repeat (first | (with_reducible exact HN.out) | (with_reducible refine New.set ?_ _ _) | (with_reducible refine New.alloc ?_ _) | (with_reducible refine New.drew ?_)))
  · (repeat (first | (with_reducible exact HB.out) | (with_reducible exact Below.refl _ _) | (with_reducible refine below_set ?_ (by first | omega | (dsimp only; omega) | (simp; done) | (simp; omega)) _) | (with_reducible refine below_alloc ?_ _) | (with_reducible refine below_drewN ?_ _) | (with_reducible refine below_drew ?_)))
end Go.Proofs.Ytjfjpabfkembcaa.H
