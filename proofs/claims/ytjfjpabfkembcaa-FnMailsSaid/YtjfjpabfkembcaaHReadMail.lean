/- ReadMail of both: the walks. Printed by this session's gen_readmail2.py. -/
import Derived.Test.YtjfjpabfkembcaaHScan
import Derived.Test.YtjfjpabfkembcaaHOk1
namespace Go.Proofs.Ytjfjpabfkembcaa.H
open Go.RowKit
set_option linter.unusedVariables false
set_option linter.unusedSimpArgs false
theorem owRow_keep2 {α : Type} {e sz s : Nat} {R : World → List Nat → List Value → α → Prop} {K : World → List Value → α → Prop} (o : Ow s R K) {w w' : World} {D Dx : List Nat} {v : Value} {l : List α} (h : owRow e sz R w D v l)
    (hk : Keep Dx w w') (hd : ∀ b ∈ D, b ∉ Dx) : owRow e sz R w' D v l := owRow_mov o h fun b hb => hk.block b (owRow_lt o h b hb) (hd b hb)
theorem Keep.keepNew {D E : List Nat} {w w' w'' : World} (h : Keep D w w') (hk : Keep E w' w'') (hE : ∀ b ∈ E, w.heap.size ≤ b) : Keep D w w'' :=
  ⟨hk.os.trans h.os, hk.tape.trans h.tape, hk.output.trans h.output, Nat.le_trans h.size hk.size, fun k hlt hn => (hk.block k (Nat.lt_of_lt_of_le hlt h.size) (fun hb => by have := hE k hb; omega)).trans (h.block k hlt hn)⟩
theorem Keep.setNew {D : List Nat} {w w' : World} (h : Keep D w w') {p : Addr} (hp : w.heap.size ≤ p.block) (u : Value) : Keep D w (w'.setCell p u) :=
  h.keepNew (E := [p.block]) ((Keep.refl _ w').set (by simp) u) (by simpa using hp)
theorem owRow_drew {α : Type} {e sz s : Nat} {R : World → List Nat → List Value → α → Prop} {K : World → List Value → α → Prop} (o : Ow s R K) {w : World} {D : List Nat} {v : Value} {l : List α} (h : owRow e sz R w D v l) : owRow e sz R w.drew D v l := owRow_below o h (below_drew (Below.refl _ _))
def regS (t : ByteArray) (s : Int × Bool) : Reg × Int × Bool := (⟨(numS t s).1, (numS t (numS t s).2).1, (numS t (numS t (numS t s).2).2).1⟩, (numS t (numS t (numS t s).2).2).2)
def regsS (t : ByteArray) : Nat → Int × Bool → List Reg × Int × Bool
  | 0, s => ([], s)
  | k + 1, s => ((regS t s).1 :: (regsS t k (regS t s).2).1, (regsS t k (regS t s).2).2)
def mailS (t : ByteArray) (s : Int × Bool) : Mail × Int × Bool :=
  (⟨(numS t s).1, (numS t (numS t s).2).1, (regsS t 3 (numS t (numS t s).2).2).1, (shortS t (regsS t 3 (numS t (numS t s).2).2).2).1⟩, (shortS t (regsS t 3 (numS t (numS t s).2).2).2).2)
def mail0 : Mail := ⟨0, 0, [], ⟨#[]⟩⟩
def readMail (t : ByteArray) (p : Int) : Mail × Int × Bool := if (mailS t (p, false)).2.2 = true ∨ mailOk (mailS t (p, false)).1 = false then (mail0, 0, false) else ((mailS t (p, false)).1, (mailS t (p, false)).2.1, true)
set_option maxHeartbeats 2000000 in
set_option maxRecDepth 100000 in
theorem stamp_calls (w : World) (C : Nat) (t : ByteArray) (s : Int × Bool) (ht : t.size ≤ 140737488351232) (hl : Loc w C #[.string t, .int .i64 s.1, .bool s.2] 155) :
    Calls Try.prog 180 #[.pointer (some ⟨C, 0, none⟩)] w fun e w' => e = .returned (.agg #[.int .i64 (numS t s).1, .int .i64 (numS t (numS t s).2).1]) ∧ Loc w' C #[.string t, .int .i64 (numS t (numS t s).2).2.1, .bool (numS t (numS t s).2).2.2] 155 ∧ Keep [C] w w' := by
  obtain ⟨a, s1, h1⟩ : ∃ v s', numS t s = (v, s') := ⟨_, _, rfl⟩
  obtain ⟨b, s2, h2⟩ : ∃ v s', numS t s1 = (v, s') := ⟨_, _, rfl⟩
  simp only [h1, h2]
  have E1 := Aside.mk h1
  have E2 := Aside.mk h2
  have HC := Aside.mk hl.lt
  have LC := Aside.mk (hl.alloc (.cells #[.int .i64 0, .int .i64 0] 29))
  have L2 := Aside.mk (Loc.new w #[.int .i64 0, .int .i64 0] 29)
  clear h1 h2 hl
  go_enter Try.func180, Try.ntmps180
  go_wp2_with (fail)
  refine (num_calls _ C t s ht LC.out).mono ?_
  rintro e w1 ⟨rfl, hlc, hk⟩
  rw [E1.out] at hlc
  simp only [E1.out]
  replace LC := Aside.mk hlc
  replace L2 := Aside.mk (L2.out.keep hk (by simp only [List.mem_singleton]; have := HC.out; omega))
  have KK := Aside.mk (((Keep.refl [C] w).alloc (.cells #[.int .i64 0, .int .i64 0] 29)).trans hk)
  have HQ1 : Aside (w.heap.size < w1.heap.size) := ⟨L2.out.lt⟩
  clear hlc hk
  go_wp2_with (fail)
  replace LC := Aside.mk (LC.out.alloc (.cells #[.int .i64 a, .int .i64 0] 29))
  replace L2 := Aside.mk (L2.out.alloc (.cells #[.int .i64 a, .int .i64 0] 29))
  have L3 := Aside.mk (Loc.new w1 #[.int .i64 a, .int .i64 0] 29)
  replace KK := Aside.mk (KK.out.alloc (.cells #[.int .i64 a, .int .i64 0] 29))
  refine (num_calls _ C t s1 ht LC.out).mono ?_
  rintro e w2 ⟨rfl, hlc, hk⟩
  rw [E2.out] at hlc
  simp only [E2.out]
  replace LC := Aside.mk hlc
  replace L2 := Aside.mk (L2.out.keep hk (by simp only [List.mem_singleton]; have := HC.out; omega))
  replace L3 := Aside.mk (L3.out.keep hk (by simp only [List.mem_singleton]; have := HC.out; have := HQ1.out; omega))
  replace KK := Aside.mk (KK.out.trans hk)
  clear hlc hk
  have l2 := L2.out.cells
  have q2 := L2.out.lt
  have f2 := L2.out.free
  have l3 := L3.out.cells
  have q3 := L3.out.lt
  have f3 := L3.out.free
  have hne : w.heap.size ≠ w1.heap.size := by have := HQ1.out; omega
  go_wp2
  refine bodyPost_ret (v := .agg #[.int .i64 a, .int .i64 b]) (by simp [results, go_sem, l2, q2]) rfl ⟨rfl, ?_, ?_⟩
  · (repeat (first | (with_reducible exact LC.out) | (with_reducible refine Loc.set ?_ (by have := HC.out; have := HQ1.out; dsimp only; omega) _)))
  · (repeat (first | (with_reducible exact KK.out) | (with_reducible refine Keep.setNew ?_ (by have := HQ1.out; dsimp only; omega) _)))
set_option maxHeartbeats 2000000 in
set_option maxRecDepth 100000 in
theorem mail_calls (w : World) (C : Nat) (t : ByteArray) (s0 : Int × Bool) (ht : t.size ≤ 140737488351232) (hl : Loc w C #[.string t, .int .i64 s0.1, .bool s0.2] 155) :
    Calls Try.prog 140 #[.pointer (some ⟨C, 0, none⟩)] w fun e w' => ∃ fv D, e = .returned (.agg #[.int .i64 (mailS t s0).1.g, .int .i64 (mailS t s0).1.u, fv, .string (mailS t s0).1.tx]) ∧ owRegs w' D fv (mailS t s0).1.fl ∧ New w w' D ∧ Loc w' C #[.string t, .int .i64 (mailS t s0).2.1, .bool (mailS t s0).2.2] 155 ∧ Keep [C] w w' := by
  obtain ⟨wk, hwk⟩ : ∃ wk, wk = w := ⟨_, rfl⟩
  obtain ⟨B2, hB2⟩ : ∃ B2, B2 = w.heap.size := ⟨_, rfl⟩
  have HC : Aside (C < B2) := ⟨by rw [hB2]; exact hl.lt⟩
  have HK : Aside (wk.heap.size ≤ B2) := ⟨by rw [hwk, hB2]; exact Nat.le_refl _⟩
  have LC := Aside.mk (hl.alloc (.cells #[.int .i64 0, .int .i64 0, .slice none 0 0, .string ⟨#[]⟩] 58))
  have L2 := Aside.mk (Loc.new w #[.int .i64 0, .int .i64 0, .slice none 0 0, .string ⟨#[]⟩] 58)
  have KK := Aside.mk ((Keep.refl [C] w).alloc (.cells #[.int .i64 0, .int .i64 0, .slice none 0 0, .string ⟨#[]⟩] 58))
  rw [← hB2] at L2
  rw [← hwk]
  go_enter Try.func140, Try.ntmps140
  rw [hwk]
  go_wp2_with (fail)
  try rw [← hB2]
  have KK2 : Aside (Keep [C] wk (w.alloc (.cells #[.int .i64 0, .int .i64 0, .slice none 0 0, .string ⟨#[]⟩] 58))) := ⟨by rw [hwk]; exact KK.out⟩
  clear KK
  have KK := KK2
  have HWK := Aside.mk hwk
  clear KK2 hl hB2 hwk
  refine (num_calls _ C t s0 ht LC.out).mono ?_
  rintro e w1 ⟨rfl, hlc, hk⟩
  obtain ⟨g, s1, hg⟩ : ∃ v_ s_, numS t s0 = (v_, s_) := ⟨_, _, rfl⟩
  rw [hg] at hlc
  simp only [hg]
  have Eg := Aside.mk hg
  replace LC := Aside.mk hlc
  replace L2 := Aside.mk (L2.out.keep hk (by simp only [List.mem_singleton]; have := HC.out; (try have := HB3.out); (try have := HB4.out); omega))
  replace KK := Aside.mk (KK.out.trans hk)
  clear hlc hk hg
  (try clear lC qC fC)
  have lC := LC.out.cells
  have qC := LC.out.lt
  have fC := LC.out.free
  (try clear l2 q2 f2)
  have l2 := L2.out.cells
  have q2 := L2.out.lt
  have f2 := L2.out.free
  go_wp2_with (fail)
  replace LC := Aside.mk (LC.out.alloc (.cells #[.int .i64 g, .int .i64 0, .slice none 0 0, .string ⟨#[]⟩] 58))
  replace L2 := Aside.mk (L2.out.alloc (.cells #[.int .i64 g, .int .i64 0, .slice none 0 0, .string ⟨#[]⟩] 58))
  replace KK := Aside.mk (KK.out.alloc (.cells #[.int .i64 g, .int .i64 0, .slice none 0 0, .string ⟨#[]⟩] 58))
  have L3 := Aside.mk (Loc.new w1 #[.int .i64 g, .int .i64 0, .slice none 0 0, .string ⟨#[]⟩] 58)
  obtain ⟨B3, hB3⟩ : ∃ B3, B3 = w1.heap.size := ⟨_, rfl⟩
  have HB3 : Aside (C < B3 ∧ B2 < B3) := ⟨by have := qC; have := q2; omega⟩
  obtain ⟨wz, hwz⟩ : ∃ wz, wz = w1.alloc (.cells #[.int .i64 g, .int .i64 0, .slice none 0 0, .string ⟨#[]⟩] 58) := ⟨_, rfl⟩
  have HZ : Aside (wz.heap.size = B3 + 1) := ⟨by rw [hwz, hB3]; simp⟩
  rw [← hwz, ← hB3] at L3
  rw [← hwz] at LC L2 KK
  try rw [← hwz]
  try rw [← hB3]
  clear hwz hB3
  refine (num_calls _ C t s1 ht LC.out).mono ?_
  rintro e w2 ⟨rfl, hlc, hk⟩
  obtain ⟨u, s2, hu⟩ : ∃ v_ s_, numS t s1 = (v_, s_) := ⟨_, _, rfl⟩
  rw [hu] at hlc
  simp only [hu]
  have Eu := Aside.mk hu
  replace LC := Aside.mk hlc
  replace L2 := Aside.mk (L2.out.keep hk (by simp only [List.mem_singleton]; have := HC.out; (try have := HB3.out); (try have := HB4.out); omega))
  replace L3 := Aside.mk (L3.out.keep hk (by simp only [List.mem_singleton]; have := HC.out; (try have := HB3.out); (try have := HB4.out); omega))
  replace KK := Aside.mk (KK.out.trans hk)
  clear hlc hk hu
  (try clear lC qC fC)
  have lC := LC.out.cells
  have qC := LC.out.lt
  have fC := LC.out.free
  (try clear l2 q2 f2)
  have l2 := L2.out.cells
  have q2 := L2.out.lt
  have f2 := L2.out.free
  (try clear l3 q3 f3)
  have l3 := L3.out.cells
  have q3 := L3.out.lt
  have f3 := L3.out.free
  go_wp2
  replace LC := Aside.mk (LC.out.set (p := ⟨B3, 1, none⟩) (by show _ ≠ B3; have := HB3.out; omega) (.int .i64 u))
  replace L2 := Aside.mk (L2.out.set (p := ⟨B3, 1, none⟩) (by show _ ≠ B3; have := HB3.out; omega) (.int .i64 u))
  replace L3 : Aside (Loc _ B3 #[.int .i64 g, .int .i64 u, .slice none 0 0, .string ⟨#[]⟩] 58) := Aside.mk (L3.out.put 1 (.int .i64 u))
  replace KK : Aside (Keep [C] wk _) := Aside.mk (KK.out.setNew (p := ⟨B3, 1, none⟩) (by have := HB3.out; have := HK.out; show _ ≤ B3; omega) (.int .i64 u))
  obtain ⟨w3, hw3⟩ : ∃ w3, w3 = w2.setCell ⟨B3, 1, none⟩ (.int .i64 u) := ⟨_, rfl⟩
  have HSZ : Aside (w2.heap.size = w3.heap.size) := ⟨by rw [hw3]; simp [World.setCell]⟩
  have HN0 : Aside (wz.heap.size ≤ w3.heap.size) := ⟨by have := L3.out.lt; rw [← hw3] at this; have := HZ.out; omega⟩
  rw [← hw3] at LC L2 L3 KK ⊢
  clear hw3
  clear lC qC fC l2 q2 f2 l3 q3 f3
  go_loopw [4, 11] (fun v4 v11 wr => ∃ (i : Nat) (Av : Option Addr) (nv cv : Nat) (D : List Nat) (l : List Reg) (s : Int × Bool), i ≤ 3 ∧ v11 = .int .i64 i ∧ l.length = i ∧ Aside (Loc wr C #[.string t, .int .i64 s.1, .bool s.2] 155) ∧ Aside (Loc wr B2 #[.int .i64 0, .int .i64 0, .slice none 0 0, .string ⟨#[]⟩] 58) ∧ Aside (Loc wr B3 #[.int .i64 g, .int .i64 u, .slice Av nv cv, .string ⟨#[]⟩] 58) ∧ Aside (owRegs wr D (.slice Av nv cv) l) ∧ Aside (New wz wr D) ∧ Aside (wz.heap.size ≤ wr.heap.size) ∧ Aside (Keep [C] wk wr) ∧ Aside (regsS t 3 s2 = (l ++ (regsS t (3 - i) s).1, (regsS t (3 - i) s).2))) (fun v4 v11 _ => 3 - (intOf v11).toNat)
  case atStart => exact ⟨0, none, 0, 0, [], [], s2, by omega, rfl, rfl, LC, L2, L3, ⟨ow_nil _ _ _ _⟩, ⟨New.nil⟩, HN0, KK, ⟨by simp⟩⟩
  case round =>
    clear LC L2 L3 KK HN0 HSZ
    obtain ⟨i, Av, nv, cv, D, l, s, hi, rfl, hl, LC, L2, L3, HO, HN, HN0, KK, HS⟩ := hrel
    have HLE := Aside.mk hl
    clear hl
    have lC := LC.out.cells
    have l2 := L2.out.cells
    have l3 := L3.out.cells
    have qC := LC.out.lt
    have q2 := L2.out.lt
    have q3 := L3.out.lt
    have f3 := L3.out.free
    have f2 := L2.out.free
    have fC := LC.out.free
    by_cases hlt : i < 3
    · have hltI : (i : Int) < 3 := by omega
      go_wp2_with (fail)
      refine (num_calls _ C t s ht LC.out).mono ?_
      rintro e w4 ⟨rfl, hlc, hk⟩
      obtain ⟨rv, sa, hrv⟩ : ∃ v_ s_, numS t s = (v_, s_) := ⟨_, _, rfl⟩
      rw [hrv] at hlc
      simp only [hrv]
      have Erv := Aside.mk hrv
      replace LC := Aside.mk hlc
      replace L2 := Aside.mk (L2.out.keep hk (by simp only [List.mem_singleton]; have := HC.out; (try have := HB3.out); (try have := HB4.out); omega))
      replace L3 := Aside.mk (L3.out.keep hk (by simp only [List.mem_singleton]; have := HC.out; (try have := HB3.out); (try have := HB4.out); omega))
      replace HO := Aside.mk (owRow_keep2 ow_reg HO.out hk (fun b hb hx => by rw [List.mem_singleton] at hx; have := (HN.out.2 b hb).1; have := HC.out; have := HB3.out; have := HZ.out; omega))
      replace HN := Aside.mk (HN.out.mono hk.size)
      replace KK := Aside.mk (KK.out.trans hk)
      clear hlc hk hrv
      (try clear lC qC fC)
      have lC := LC.out.cells
      have qC := LC.out.lt
      have fC := LC.out.free
      (try clear l2 q2 f2)
      have l2 := L2.out.cells
      have q2 := L2.out.lt
      have f2 := L2.out.free
      (try clear l3 q3 f3)
      have l3 := L3.out.cells
      have q3 := L3.out.lt
      have f3 := L3.out.free
      go_wp2_with (fail)
      replace LC := Aside.mk (LC.out.alloc (.cells #[.int .i64 rv, .int .i64 0, .int .i64 0] 136))
      replace L2 := Aside.mk (L2.out.alloc (.cells #[.int .i64 rv, .int .i64 0, .int .i64 0] 136))
      replace L3 := Aside.mk (L3.out.alloc (.cells #[.int .i64 rv, .int .i64 0, .int .i64 0] 136))
      replace KK := Aside.mk (KK.out.alloc (.cells #[.int .i64 rv, .int .i64 0, .int .i64 0] 136))
      replace HO := Aside.mk (owRow_alloc ow_reg HO.out (.cells #[.int .i64 rv, .int .i64 0, .int .i64 0] 136))
      have HND : Aside (∀ b ∈ D, b < w4.heap.size) := ⟨fun b hb => (HN.out.2 b hb).2⟩
      replace HN := Aside.mk (HN.out.alloc (.cells #[.int .i64 rv, .int .i64 0, .int .i64 0] 136))
      have L4 := Aside.mk (Loc.new w4 #[.int .i64 rv, .int .i64 0, .int .i64 0] 136)
      obtain ⟨B4, hB4⟩ : ∃ B4, B4 = w4.heap.size := ⟨_, rfl⟩
      have HB4 : Aside (B3 < B4 ∧ ∀ b ∈ D, b < B4) := ⟨by have := q3; omega, fun b hb => by have := HND.out b hb; omega⟩
      rw [← hB4] at L4
      obtain ⟨w5, hw5⟩ : ∃ w5, w5 = w4.alloc (.cells #[.int .i64 rv, .int .i64 0, .int .i64 0] 136) := ⟨_, rfl⟩
      rw [← hw5] at LC L2 L3 L4 KK HO HN
      try rw [← hw5]
      try rw [← hB4]
      clear hw5 hB4 HND
      refine (stamp_calls _ C t sa ht LC.out).mono ?_
      rintro e w6 ⟨rfl, hlc, hk⟩
      obtain ⟨rt, sb, hrt⟩ : ∃ v s, numS t sa = (v, s) := ⟨_, _, rfl⟩
      rw [hrt] at hlc
      simp only [hrt]
      dsimp only at hlc
      obtain ⟨ry, sc, hry⟩ : ∃ v s, numS t sb = (v, s) := ⟨_, _, rfl⟩
      rw [hry] at hlc
      simp only [hry]
      have Ert := Aside.mk hrt
      have Ery := Aside.mk hry
      replace LC := Aside.mk hlc
      replace L2 := Aside.mk (L2.out.keep hk (by simp only [List.mem_singleton]; have := HC.out; have := HB3.out; have := HB4.out; omega))
      replace L3 := Aside.mk (L3.out.keep hk (by simp only [List.mem_singleton]; have := HC.out; have := HB3.out; have := HB4.out; omega))
      replace L4 := Aside.mk (L4.out.keep hk (by simp only [List.mem_singleton]; have := HC.out; have := HB3.out; have := HB4.out; omega))
      replace HO := Aside.mk (owRow_keep2 ow_reg HO.out hk (fun b hb hx => by rw [List.mem_singleton] at hx; have := (HN.out.2 b hb).1; have := HC.out; have := HB3.out; have := HZ.out; omega))
      replace HN := Aside.mk (HN.out.mono hk.size)
      replace KK := Aside.mk (KK.out.trans hk)
      clear hlc hk hrt hry
      (try clear lC qC fC)
      have lC := LC.out.cells
      have qC := LC.out.lt
      have fC := LC.out.free
      (try clear l2 q2 f2)
      have l2 := L2.out.cells
      have q2 := L2.out.lt
      have f2 := L2.out.free
      (try clear l3 q3 f3)
      have l3 := L3.out.cells
      have q3 := L3.out.lt
      have f3 := L3.out.free
      (try clear l4 q4 f4)
      have l4 := L4.out.cells
      have q4 := L4.out.lt
      have f4 := L4.out.free
      have hS : Aside (regsS t 3 s2 = ((l ++ [(⟨rv, rt, ry⟩ : Reg)]) ++ (regsS t (3 - (i + 1)) sc).1, (regsS t (3 - (i + 1)) sc).2)) := ⟨by
        rw [HS.out, show 3 - i = (3 - (i + 1)) + 1 by omega]
        simp only [regsS, regS, Erv.out, Ert.out, Ery.out, List.append_assoc, List.singleton_append]⟩
      have hb4 : B4 ∉ D := fun hx => by have := HB4.out.2 _ hx; omega
      have hk4 : wk.heap.size ≤ B4 := by have := HB3.out; have := HB4.out.1; have := HK.out; omega
      have hne3 : B3 ≠ B4 := by have := HB4.out.1; omega
      have hneC : C ≠ B4 := by have := HB4.out.1; have := HB3.out; omega
      have hne2 : B2 ≠ B4 := by have := HB4.out.1; have := HB3.out; omega
      obtain ⟨wx, hwx⟩ : ∃ wx, wx = ((w6.setCell ⟨B4, 1, none⟩ (.int .i64 rt)).setCell ⟨B4, 2, none⟩ (.int .i64 ry)) := ⟨_, rfl⟩
      have HOx : Aside (owRegs wx D (.slice Av nv cv) l) := ⟨by rw [hwx]; exact (owRow_set ow_reg (owRow_set ow_reg HO.out (p := ⟨B4, 1, none⟩) hb4 _) (p := ⟨B4, 2, none⟩) hb4 _)⟩
      have HNx : Aside (New wz wx D) := ⟨by rw [hwx]; exact ((HN.out.set _ _).set _ _)⟩
      have KKx : Aside (Keep [C] wk wx) := ⟨by rw [hwx]; exact ((KK.out.setNew (p := ⟨B4, 1, none⟩) hk4 _).setNew (p := ⟨B4, 2, none⟩) hk4 _)⟩
      have LCx : Aside (Loc wx C #[.string t, .int .i64 sc.1, .bool sc.2] 155) := ⟨by rw [hwx]; exact ((LC.out.set (p := ⟨B4, 1, none⟩) hneC _).set (p := ⟨B4, 2, none⟩) hneC _)⟩
      have L2x : Aside (Loc wx B2 #[.int .i64 0, .int .i64 0, .slice none 0 0, .string ⟨#[]⟩] 58) := ⟨by rw [hwx]; exact ((L2.out.set (p := ⟨B4, 1, none⟩) hne2 _).set (p := ⟨B4, 2, none⟩) hne2 _)⟩
      have L3x : Aside (Loc wx B3 #[.int .i64 g, .int .i64 u, .slice Av nv cv, .string ⟨#[]⟩] 58) := ⟨by rw [hwx]; exact ((L3.out.set (p := ⟨B4, 1, none⟩) hne3 _).set (p := ⟨B4, 2, none⟩) hne3 _)⟩
      have HWx : Aside (w6.heap.size = wx.heap.size) := ⟨by rw [hwx]; simp [World.setCell]⟩
      have HWX := Aside.mk hwx
      have HZx : Aside (wz.heap.size ≤ wx.heap.size) := ⟨by have := L3x.out.lt; have := HZ.out; omega⟩
      clear hwx
      go_wp2_with (at_builtin; rw [← HWX.out]; refine list_snoc el_reg ow_reg (owRow_alloc ow_reg HOx.out (.cells #[.int .i64 rv, .int .i64 rt, .int .i64 ry] 136)) (w0 := wz) (y := (⟨rv, rt, ry⟩ : Reg)) (Dx := []) (cs := [.int .i64 rv, .int .i64 rt, .int .i64 ry]) ⟨rfl, rfl⟩ (by rw [List.append_nil]; exact HNx.out.alloc _) (by have := HZx.out; simp; omega) (.tmp 20) (.tmp 22) (by rfl) (by rfl) (by rfl) w6.heap.size (by rfl) (by rw [HWx.out]; exact Loc.new wx _ _) (by have := HLE.out; omega) (by have := HLE.out; omega) (w6.heap.size + 1) (by have := HWx.out; simp; omega) (fun g2 cap w' D' hk1 hk2 hk3 hk => ?_); have hoC : ∀ x, x < wz.heap.size → x ∉ D := fun x hx hx2 => (by have := (HNx.out.2 x hx2).1; omega); have LC5 := Aside.mk ((LCx.out.alloc (.cells #[.int .i64 rv, .int .i64 rt, .int .i64 ry] 136)).keep hk (hoC _ (by have := HZ.out; have := HB3.out; omega))); have L25 := Aside.mk ((L2x.out.alloc (.cells #[.int .i64 rv, .int .i64 rt, .int .i64 ry] 136)).keep hk (hoC _ (by have := HZ.out; have := HB3.out; omega))); have L35 := Aside.mk ((L3x.out.alloc (.cells #[.int .i64 rv, .int .i64 rt, .int .i64 ry] 136)).keep hk (hoC _ (by have := HZ.out; omega))); have HO5 := Aside.mk hk1; have HN5 := Aside.mk hk2; have KK5 : Aside (Keep [C] wk w') := ⟨(KKx.out.alloc (.cells #[.int .i64 rv, .int .i64 rt, .int .i64 ry] 136)).keepNew hk (fun b hb => by have := (HNx.out.2 b hb).1; have := HK.out; have := HB3.out; have := HZ.out; omega)⟩; clear hk1 hk2 hk3 hk hoC; clear LC L2 L3 L4 KK HO HN LCx L2x L3x KKx HOx HNx HZx HWx HWX lC qC fC l3 q3 f3 l4 q4 f4 l2 q2 f2; have l3 := L35.out.cells; have q3 := L35.out.lt; have f3 := L35.out.free)
      have HB3n : B3 ∉ D' := fun hx => by have := (HN5.out.2 _ hx).1; have := HZ.out; omega
      go_roundw
      case rel => exact ⟨i + 1, _, _, _, D', l ++ [⟨rv, rt, ry⟩], sc, by omega, by go_num, by have := HLE.out; simp; omega, ⟨LC5.out.set (p := ⟨B3, 2, none⟩) (by show _ ≠ B3; have := HB3.out; omega) _⟩, ⟨L25.out.set (p := ⟨B3, 2, none⟩) (by show _ ≠ B3; have := HB3.out; omega) _⟩, ⟨L35.out.put 2 _⟩, ⟨owRow_set ow_reg HO5.out (p := ⟨B3, 2, none⟩) HB3n _⟩, ⟨HN5.out.set _ _⟩, ⟨by have := L35.out.lt; have := HZ.out; simp [World.setCell]; omega⟩, ⟨KK5.out.setNew (p := ⟨B3, 2, none⟩) (by have := HB3.out; have := HK.out; show _ ≤ B3; omega) _⟩, hS⟩
      case measure => simp [intOf]; omega
    · have hi3 : i = 3 := by omega
      have hltI : ¬ ((i : Int) < 3) := by omega
      have hS : Aside (regsS t 3 s2 = (l, s)) := ⟨by rw [HS.out, hi3]; simp [regsS]⟩
      clear hlt hi3 HS
      go_wp2_with (fail)
      refine (short_calls _ C t s ht LC.out).mono ?_
      rintro e w7 ⟨rfl, hlc, hk⟩
      obtain ⟨tx, s9, htx⟩ : ∃ v_ s_, shortS t s = (v_, s_) := ⟨_, _, rfl⟩
      rw [htx] at hlc
      simp only [htx]
      have Etx := Aside.mk htx
      replace LC := Aside.mk hlc
      replace L2 := Aside.mk (L2.out.keep hk (by simp only [List.mem_singleton]; have := HC.out; (try have := HB3.out); (try have := HB4.out); omega))
      replace L3 := Aside.mk (L3.out.keep hk (by simp only [List.mem_singleton]; have := HC.out; (try have := HB3.out); (try have := HB4.out); omega))
      replace HO := Aside.mk (owRow_keep2 ow_reg HO.out hk (fun b hb hx => by rw [List.mem_singleton] at hx; have := (HN.out.2 b hb).1; have := HC.out; have := HB3.out; have := HZ.out; omega))
      replace HN := Aside.mk (HN.out.mono hk.size)
      replace KK := Aside.mk (KK.out.trans hk)
      clear hlc hk htx
      (try clear lC qC fC)
      have lC := LC.out.cells
      have qC := LC.out.lt
      have fC := LC.out.free
      (try clear l2 q2 f2)
      have l2 := L2.out.cells
      have q2 := L2.out.lt
      have f2 := L2.out.free
      (try clear l3 q3 f3)
      have l3 := L3.out.cells
      have q3 := L3.out.lt
      have f3 := L3.out.free
      have HM : Aside (mailS t s0 = (⟨g, u, l, tx⟩, s9)) := ⟨by unfold mailS; simp only [Eg.out, Eu.out, hS.out, Etx.out]⟩
      have hne32 : B3 ≠ B2 := by have := HB3.out; omega
      go_wp2
      refine bodyPost_ret (v := .agg #[.int .i64 g, .int .i64 u, .slice Av nv cv, .string tx]) (by simp [results, go_sem, l2, q2, hne32]) rfl ?_
      rw [HM.out]
      have hn : ∀ b ∈ D, B3 < b := fun b hb => by have := (HN.out.2 b hb).1; have := HZ.out; omega
      refine ⟨_, rfl, D, ?_, ?_, ?_, ?_⟩
      · (repeat (first | (with_reducible exact HO.out) | (with_reducible refine owRow_set ow_reg ?_ (fun hx => by have := hn _ hx; have := HB3.out; dsimp only at *; omega) _)))
      · have hnn : New wz w7 D := HN.out
        exact ⟨hnn.1, fun b hb => ⟨by rw [← HWK.out]; have := hn b hb; have := HB3.out; have := HK.out; omega, by simp only [World.setCell, Array.size_modify]; exact (hnn.2 b hb).2⟩⟩
      · (repeat (first | (with_reducible exact LC.out) | (with_reducible refine Loc.set ?_ (by have := HC.out; have := HB3.out; dsimp only; omega) _)))
      · rw [← HWK.out]
        (repeat (first | (with_reducible exact KK.out) | (with_reducible refine Keep.setNew ?_ (by have := HK.out; have := HB3.out; dsimp only; omega) _)))
theorem extract_le (t : ByteArray) (a b : Nat) : (t.extract a b).size ≤ t.size := by rw [ByteArray.size_extract]; omega
theorem readShort_tx (t : ByteArray) (p : Int) : (readShort t p).1.size ≤ t.size := by
  unfold readShort
  split
  · split
    · exact Nat.zero_le _
    · split
      · exact Nat.zero_le _
      · exact extract_le _ _ _
  · exact Nat.zero_le _
theorem shortS_tx (t : ByteArray) (s : Int × Bool) : (shortS t s).1.size ≤ t.size := by
  unfold shortS
  split
  · exact Nat.zero_le _
  · split
    · exact readShort_tx _ _
    · exact Nat.zero_le _
theorem mailS_tx (t : ByteArray) (s : Int × Bool) : (mailS t s).1.tx.size ≤ t.size := shortS_tx _ _
def RetRM (r : Mail × Int × Bool) (w : World) (e : Ending) (w' : World) : Prop := ∃ fv D, e = .returned (.tuple #[.agg #[.int .i64 r.1.g, .int .i64 r.1.u, fv, .string r.1.tx], .int .i64 r.2.1, .bool r.2.2]) ∧ owRegs w' D fv r.1.fl ∧ New w w' D ∧ Below w.heap.size w w'
set_option maxHeartbeats 2000000 in
set_option maxRecDepth 100000 in
theorem readMail_calls (w : World) (t : ByteArray) (p : Int) (ht : t.size ≤ 140737488351232) : Calls Try.prog 58 #[.string t, .int .i64 p] w (RetRM (readMail t p) w) := by
  obtain ⟨m, n, bad, hm⟩ : ∃ m n bad, mailS t (p, false) = (m, n, bad) := ⟨_, _, _, rfl⟩
  have htx := mailS_tx t (p, false)
  rw [hm] at htx
  have HTX : Aside (m.tx.size ≤ 140737488351232) := ⟨by dsimp only at htx; omega⟩
  have HM := Aside.mk hm
  clear hm htx
  have L2 := Aside.mk ((Loc.new w #[.int .i64 0, .int .i64 0, .slice none 0 0, .string ⟨#[]⟩] 58).alloc (.cells #[.string t, .int .i64 p, .bool false] 155))
  have LC := Aside.mk (Loc.new1 w (.cells #[.int .i64 0, .int .i64 0, .slice none 0 0, .string ⟨#[]⟩] 58) #[.string t, .int .i64 p, .bool false] 155)
  go_enter Try.func58, Try.ntmps58
  go_wp2_with (fail)
  refine (mail_calls _ (w.heap.size + 1) t (p, false) ht LC.out).mono ?_
  rintro e w1 ⟨fv, Dm, he, ho, hn, hlc, hk⟩
  rw [HM.out] at he ho hlc
  dsimp only at he ho hlc
  subst he
  obtain ⟨Am, cm, rfl⟩ := cell_own ow_reg ho
  have KK : Aside (Keep [w.heap.size + 1] w w1) := ⟨(((Keep.refl _ w).alloc _).alloc _).trans hk⟩
  replace L2 := Aside.mk (L2.out.keep hk (by simp))
  replace LC := Aside.mk hlc
  have HO := Aside.mk ho
  have HDl : Aside (∀ b ∈ Dm, w.heap.size + 2 ≤ b) := ⟨fun b hb => by have := (hn.2 b hb).1; simp at this; omega⟩
  have HN : Aside (New w w1 Dm) := ⟨hn.1, fun b hb => ⟨by have := HDl.out b hb; omega, (hn.2 b hb).2⟩⟩
  have q2 := L2.out.lt
  have qC := LC.out.lt
  clear ho hn hlc hk
  replace L2 := Aside.mk (L2.out.alloc (.cells #[.int .i64 m.g, .int .i64 m.u, .slice Am m.fl.length cm, .string m.tx] 58))
  replace LC := Aside.mk (LC.out.alloc (.cells #[.int .i64 m.g, .int .i64 m.u, .slice Am m.fl.length cm, .string m.tx] 58))
  have L8 := Aside.mk (Loc.new w1 #[.int .i64 m.g, .int .i64 m.u, .slice Am m.fl.length cm, .string m.tx] 58)
  replace HO := Aside.mk (owRow_alloc ow_reg HO.out (.cells #[.int .i64 m.g, .int .i64 m.u, .slice Am m.fl.length cm, .string m.tx] 58))
  replace HN := Aside.mk (HN.out.alloc (.cells #[.int .i64 m.g, .int .i64 m.u, .slice Am m.fl.length cm, .string m.tx] 58))
  replace KK := Aside.mk (KK.out.alloc (.cells #[.int .i64 m.g, .int .i64 m.u, .slice Am m.fl.length cm, .string m.tx] 58))
  have HBB : Aside (w.heap.size + 1 < w1.heap.size) := ⟨qC⟩
  have HDB : Aside (∀ b ∈ Dm, b ≠ w.heap.size) := ⟨fun b hb => by have := HDl.out b hb; omega⟩
  clear q2 qC
  have HBF : Aside (Below w.heap.size w _) := ⟨KK.out.below (w0 := w) (fun b hb => by rw [List.mem_singleton] at hb; have := HBB.out; omega) (Nat.le_refl _)⟩
  have l2 := L2.out.cells
  have q2 := L2.out.lt
  have f2 := L2.out.free
  have l8 := L8.out.cells
  have q8 := L8.out.lt
  have lC := LC.out.cells
  have qC := LC.out.lt
  cases bad
  rotate_left
  · have HE : Aside (readMail t p = (mail0, 0, false)) := ⟨by unfold readMail; rw [HM.out]; rfl⟩
    go_wp2_with (fail)
    refine bodyPost_ret (v := .tuple #[.agg #[.int .i64 0, .int .i64 0, .slice none 0 0, .string ⟨#[]⟩], .int .i64 0, .bool false]) (by simp [results, go_sem, l2, q2]) rfl ?_
    rw [HE.out]
    refine ⟨_, [], rfl, ow_nil _ _ _ _, New.nil, ?_⟩
    (repeat (first | (with_reducible exact HBF.out) | (with_reducible refine below_set ?_ (by have := HBB.out; dsimp only; omega) _)))
  · rcases hok : mailOk m with _ | _
    · have HE : Aside (readMail t p = (mail0, 0, false)) := ⟨by unfold readMail; rw [HM.out]; simp [hok]⟩
      have HOK := Aside.mk hok
      clear hok
      go_wp2_with (fail)
      refine (mailOk_calls _ _ m (owRow_rd ow_reg HO.out) (by have h_ := HTX.out; first | omega | (dsimp only; omega))).mono ?_
      rintro e w9 ⟨rfl, hb⟩
      rw [HOK.out]
      replace L2 := Aside.mk (L2.out.below hb)
      replace L8 := Aside.mk (L8.out.below hb)
      replace LC := Aside.mk (LC.out.below hb)
      replace HBF := Aside.mk (below_step HBF.out hb)
      replace HO := Aside.mk (owRow_below ow_reg HO.out hb)
      replace HN := Aside.mk (HN.out.mono hb.size)
      clear hb l2 q2 f2
      (try clear l8 q8)
      clear lC qC
      (try clear l3 q3 f3)
      (try clear fC)
      have l2 := L2.out.cells
      have q2 := L2.out.lt
      have f2 := L2.out.free
      go_wp2
      refine bodyPost_ret (v := .tuple #[.agg #[.int .i64 0, .int .i64 0, .slice none 0 0, .string ⟨#[]⟩], .int .i64 0, .bool false]) (by simp [results, go_sem, l2, q2]) rfl ?_
      rw [HE.out]
      refine ⟨_, [], rfl, ow_nil _ _ _ _, New.nil, ?_⟩
      (repeat (first | (with_reducible exact HBF.out) | (with_reducible refine below_set ?_ (by have := HBB.out; dsimp only; omega) _)))
    · have HE : Aside (readMail t p = (m, n, true)) := ⟨by unfold readMail; rw [HM.out]; simp [hok]⟩
      have HOK := Aside.mk hok
      clear hok
      go_wp2_with (fail)
      refine (mailOk_calls _ _ m (owRow_rd ow_reg HO.out) (by have h_ := HTX.out; first | omega | (dsimp only; omega))).mono ?_
      rintro e w9 ⟨rfl, hb⟩
      rw [HOK.out]
      replace L2 := Aside.mk (L2.out.below hb)
      replace L8 := Aside.mk (L8.out.below hb)
      replace LC := Aside.mk (LC.out.below hb)
      replace HBF := Aside.mk (below_step HBF.out hb)
      replace HO := Aside.mk (owRow_below ow_reg HO.out hb)
      replace HN := Aside.mk (HN.out.mono hb.size)
      clear hb l2 q2 f2
      (try clear l8 q8)
      clear lC qC
      (try clear l3 q3 f3)
      (try clear fC)
      have l2 := L2.out.drew'.cells
      have q2 := L2.out.drew'.lt
      have f2 := L2.out.drew'.free
      have l2' := L2.out.cells
      have q2' := L2.out.lt
      have f2' := L2.out.free
      go_wp2
      refine zBegin (S := (fun w' => Loc w' (w.heap.size + 1) #[.string t, .int .i64 n, .bool false] 155 ∧ Loc w' w1.heap.size #[.int .i64 m.g, .int .i64 m.u, .slice Am m.fl.length cm, .string m.tx] 58)) (z := 8) (by kernel_rfl) (by exact ⟨LC.out.drew', L8.out.drew'⟩) (fun hHeld => ?_)
      refine zT 0 25 hHeld ?_
      refine zT 1 26 hHeld ?_
      refine zT 2 27 hHeld ?_
      refine zT 3 28 hHeld ?_
      refine zT 4 29 hHeld ?_
      refine zReady (rs := [5]) (by kernel_rfl) (by simp) ?_
      refine zOne (by decide) rfl (fun K hK => ?_) zNil
      go_simp
      refine hK.out _ _ (by (refine ⟨?_, ?_⟩ <;> (repeat (first | (with_reducible exact hHeld.1) | (with_reducible exact hHeld.2) | (with_reducible exact LC.out) | (with_reducible exact L8.out) | (with_reducible refine Loc.set ?_ (by have := HBB.out; show _ ≠ w.heap.size; omega) _) | (with_reducible refine Loc.drew' ?_))))) (fun hHeld => ?_)
      clear hK K
      (try simp only [Act.put, List.setIfInBounds_toArray, List.set_cons_zero, List.set_cons_succ])
      refine zT 6 5 hHeld ?_
      refine zT 7 6 hHeld ?_
      refine zDone (by kernel_rfl) ?_ _
      clear hHeld
      go_wp2
      refine bodyPost_ret (v := .tuple #[.agg #[.int .i64 m.g, .int .i64 m.u, .slice Am m.fl.length cm, .string m.tx], .int .i64 n, .bool true]) (by simp [results, go_sem, l2, q2, l2', q2']) rfl ?_
      rw [HE.out]
      refine ⟨_, Dm, rfl, ?_, ?_, ?_⟩
      · (repeat (first | (with_reducible exact HO.out) | (with_reducible refine owRow_drew ow_reg ?_) | (with_reducible refine owRow_set ow_reg ?_ (fun hx => by have := HDB.out _ hx; exact absurd rfl this) _)))
      · (repeat (first | (with_reducible exact HN.out) | (with_reducible refine New.drew ?_) | (with_reducible refine New.set ?_ _ _)))
      · (repeat (first | (with_reducible exact HBF.out) | (with_reducible refine below_drew ?_) | (with_reducible refine below_set ?_ (by have := HBB.out; dsimp only; omega) _)))
set_option maxHeartbeats 2000000 in
set_option maxRecDepth 100000 in
theorem specReadMail_calls (w : World) (t : ByteArray) (p : Int) (ht : t.size ≤ 140737488351232) : Calls Try.prog 57 #[.string t, .int .i64 p] w (RetRM (readMail t p) w) := by
  obtain ⟨s0, hs0⟩ : ∃ s0, s0 = (p, false) := ⟨_, rfl⟩
  have htx := mailS_tx t (p, false)
  rw [← hs0] at htx
  obtain ⟨wk, hwk⟩ : ∃ wk, wk = w := ⟨_, rfl⟩
  obtain ⟨B2, hB2⟩ : ∃ B2, B2 = w.heap.size := ⟨_, rfl⟩
  obtain ⟨C, hC⟩ : ∃ C, C = w.heap.size + 1 := ⟨_, rfl⟩
  have HC : Aside (B2 < C) := ⟨by omega⟩
  have HK : Aside (wk.heap.size ≤ B2) := ⟨by rw [hwk, hB2]; exact Nat.le_refl _⟩
  have HWB : Aside (w.heap.size = B2 ∧ w.heap.size + 1 = C) := ⟨hB2.symm, hC.symm⟩
  have L2 : Aside (Loc ((w.alloc (.cells #[.int .i64 0, .int .i64 0, .slice none 0 0, .string ⟨#[]⟩] 58)).alloc (.cells #[.string t, .int .i64 p, .bool false] 150)) B2 #[.int .i64 0, .int .i64 0, .slice none 0 0, .string ⟨#[]⟩] 58) := ⟨by rw [hB2]; exact (Loc.new w #[.int .i64 0, .int .i64 0, .slice none 0 0, .string ⟨#[]⟩] 58).alloc _⟩
  have LC : Aside (Loc ((w.alloc (.cells #[.int .i64 0, .int .i64 0, .slice none 0 0, .string ⟨#[]⟩] 58)).alloc (.cells #[.string t, .int .i64 p, .bool false] 150)) C #[.string t, .int .i64 s0.1, .bool s0.2] 150) := ⟨by rw [hC, hs0]; exact Loc.new1 w (.cells #[.int .i64 0, .int .i64 0, .slice none 0 0, .string ⟨#[]⟩] 58) #[.string t, .int .i64 p, .bool false] 150⟩
  have KK : Aside (Keep [C] wk ((w.alloc (.cells #[.int .i64 0, .int .i64 0, .slice none 0 0, .string ⟨#[]⟩] 58)).alloc (.cells #[.string t, .int .i64 p, .bool false] 150))) := ⟨by rw [hwk]; exact ((Keep.refl _ w).alloc _).alloc _⟩
  have HS0 := Aside.mk hs0
  have HWK := Aside.mk hwk
  have HTX0 := Aside.mk htx
  go_enter Try.func57, Try.ntmps57
  go_wp2_with (fail)
  try rw [← hC]
  try rw [← hB2]
  clear hs0 hwk hB2 hC htx
  refine (l05Var_calls _ C t s0 ht LC.out).mono ?_
  rintro e w1 ⟨rfl, hlc, hk⟩
  obtain ⟨g, s1, hg⟩ : ∃ v_ s_, numS t s0 = (v_, s_) := ⟨_, _, rfl⟩
  rw [hg] at hlc
  simp only [hg]
  have Eg := Aside.mk hg
  replace LC := Aside.mk hlc
  replace L2 := Aside.mk (L2.out.keep hk (by simp only [List.mem_singleton]; have := HC.out; (try have := HB3.out); (try have := HB4.out); omega))
  replace KK := Aside.mk (KK.out.trans hk)
  clear hlc hk hg
  (try clear lC qC fC)
  have lC := LC.out.cells
  have qC := LC.out.lt
  have fC := LC.out.free
  (try clear l2 q2 f2)
  have l2 := L2.out.cells
  have q2 := L2.out.lt
  have f2 := L2.out.free
  go_wp2_with (fail)
  replace LC := Aside.mk (LC.out.alloc (.cells #[.int .i64 g, .int .i64 0, .slice none 0 0, .string ⟨#[]⟩] 58))
  replace L2 := Aside.mk (L2.out.alloc (.cells #[.int .i64 g, .int .i64 0, .slice none 0 0, .string ⟨#[]⟩] 58))
  replace KK := Aside.mk (KK.out.alloc (.cells #[.int .i64 g, .int .i64 0, .slice none 0 0, .string ⟨#[]⟩] 58))
  have L3 := Aside.mk (Loc.new w1 #[.int .i64 g, .int .i64 0, .slice none 0 0, .string ⟨#[]⟩] 58)
  obtain ⟨B3, hB3⟩ : ∃ B3, B3 = w1.heap.size := ⟨_, rfl⟩
  have HB3 : Aside (C < B3 ∧ B2 < B3) := ⟨by have := qC; have := q2; omega⟩
  obtain ⟨wz, hwz⟩ : ∃ wz, wz = w1.alloc (.cells #[.int .i64 g, .int .i64 0, .slice none 0 0, .string ⟨#[]⟩] 58) := ⟨_, rfl⟩
  have HZ : Aside (wz.heap.size = B3 + 1) := ⟨by rw [hwz, hB3]; simp⟩
  rw [← hwz, ← hB3] at L3
  rw [← hwz] at LC L2 KK
  try rw [← hwz]
  try rw [← hB3]
  clear hwz hB3
  refine (l05Var_calls _ C t s1 ht LC.out).mono ?_
  rintro e w2 ⟨rfl, hlc, hk⟩
  obtain ⟨u, s2, hu⟩ : ∃ v_ s_, numS t s1 = (v_, s_) := ⟨_, _, rfl⟩
  rw [hu] at hlc
  simp only [hu]
  have Eu := Aside.mk hu
  replace LC := Aside.mk hlc
  replace L2 := Aside.mk (L2.out.keep hk (by simp only [List.mem_singleton]; have := HC.out; (try have := HB3.out); (try have := HB4.out); omega))
  replace L3 := Aside.mk (L3.out.keep hk (by simp only [List.mem_singleton]; have := HC.out; (try have := HB3.out); (try have := HB4.out); omega))
  replace KK := Aside.mk (KK.out.trans hk)
  clear hlc hk hu
  (try clear lC qC fC)
  have lC := LC.out.cells
  have qC := LC.out.lt
  have fC := LC.out.free
  (try clear l2 q2 f2)
  have l2 := L2.out.cells
  have q2 := L2.out.lt
  have f2 := L2.out.free
  (try clear l3 q3 f3)
  have l3 := L3.out.cells
  have q3 := L3.out.lt
  have f3 := L3.out.free
  go_wp2
  replace LC := Aside.mk (LC.out.set (p := ⟨B3, 1, none⟩) (by show _ ≠ B3; have := HB3.out; omega) (.int .i64 u))
  replace L2 := Aside.mk (L2.out.set (p := ⟨B3, 1, none⟩) (by show _ ≠ B3; have := HB3.out; omega) (.int .i64 u))
  replace L3 : Aside (Loc _ B3 #[.int .i64 g, .int .i64 u, .slice none 0 0, .string ⟨#[]⟩] 58) := Aside.mk (L3.out.put 1 (.int .i64 u))
  replace KK : Aside (Keep [C] wk _) := Aside.mk (KK.out.setNew (p := ⟨B3, 1, none⟩) (by have := HB3.out; have := HK.out; show _ ≤ B3; omega) (.int .i64 u))
  obtain ⟨w3, hw3⟩ : ∃ w3, w3 = w2.setCell ⟨B3, 1, none⟩ (.int .i64 u) := ⟨_, rfl⟩
  have HSZ : Aside (w2.heap.size = w3.heap.size) := ⟨by rw [hw3]; simp [World.setCell]⟩
  have HN0 : Aside (wz.heap.size ≤ w3.heap.size) := ⟨by have := L3.out.lt; rw [← hw3] at this; have := HZ.out; omega⟩
  rw [← hw3] at LC L2 L3 KK ⊢
  clear hw3
  clear lC qC fC l2 q2 f2 l3 q3 f3
  go_loopw [9, 10] (fun v9 v10 wr => ∃ (i : Nat) (Av : Option Addr) (nv cv : Nat) (D : List Nat) (l : List Reg) (s : Int × Bool), i ≤ 3 ∧ v9 = .int .i64 i ∧ l.length = i ∧ Aside (Loc wr C #[.string t, .int .i64 s.1, .bool s.2] 150) ∧ Aside (Loc wr B2 #[.int .i64 0, .int .i64 0, .slice none 0 0, .string ⟨#[]⟩] 58) ∧ Aside (Loc wr B3 #[.int .i64 g, .int .i64 u, .slice Av nv cv, .string ⟨#[]⟩] 58) ∧ Aside (owRegs wr D (.slice Av nv cv) l) ∧ Aside (New wz wr D) ∧ Aside (wz.heap.size ≤ wr.heap.size) ∧ Aside (Keep [C] wk wr) ∧ Aside (regsS t 3 s2 = (l ++ (regsS t (3 - i) s).1, (regsS t (3 - i) s).2))) (fun v9 v10 _ => 3 - (intOf v9).toNat)
  case atStart => exact ⟨0, none, 0, 0, [], [], s2, by omega, rfl, rfl, LC, L2, L3, ⟨ow_nil _ _ _ _⟩, ⟨New.nil⟩, HN0, KK, ⟨by simp⟩⟩
  case round =>
    clear LC L2 L3 KK HN0 HSZ
    obtain ⟨i, Av, nv, cv, D, l, s, hi, rfl, hl, LC, L2, L3, HO, HN, HN0, KK, HS⟩ := hrel
    have HLE := Aside.mk hl
    clear hl
    have lC := LC.out.cells
    have l2 := L2.out.cells
    have l3 := L3.out.cells
    have qC := LC.out.lt
    have q2 := L2.out.lt
    have q3 := L3.out.lt
    have f3 := L3.out.free
    have f2 := L2.out.free
    have fC := LC.out.free
    by_cases hlt : i < 3
    · have hltI : (i : Int) < 3 := by omega
      go_wp2_with (fail)
      refine (l05Var_calls _ C t s ht LC.out).mono ?_
      rintro e w4 ⟨rfl, hlc, hk⟩
      obtain ⟨rv, sa, hrv⟩ : ∃ v_ s_, numS t s = (v_, s_) := ⟨_, _, rfl⟩
      rw [hrv] at hlc
      simp only [hrv]
      have Erv := Aside.mk hrv
      replace LC := Aside.mk hlc
      replace L2 := Aside.mk (L2.out.keep hk (by simp only [List.mem_singleton]; have := HC.out; (try have := HB3.out); (try have := HB4.out); omega))
      replace L3 := Aside.mk (L3.out.keep hk (by simp only [List.mem_singleton]; have := HC.out; (try have := HB3.out); (try have := HB4.out); omega))
      replace HO := Aside.mk (owRow_keep2 ow_reg HO.out hk (fun b hb hx => by rw [List.mem_singleton] at hx; have := (HN.out.2 b hb).1; have := HC.out; have := HB3.out; have := HZ.out; omega))
      replace HN := Aside.mk (HN.out.mono hk.size)
      replace KK := Aside.mk (KK.out.trans hk)
      clear hlc hk hrv
      (try clear lC qC fC)
      have lC := LC.out.cells
      have qC := LC.out.lt
      have fC := LC.out.free
      (try clear l2 q2 f2)
      have l2 := L2.out.cells
      have q2 := L2.out.lt
      have f2 := L2.out.free
      (try clear l3 q3 f3)
      have l3 := L3.out.cells
      have q3 := L3.out.lt
      have f3 := L3.out.free
      go_wp2_with (fail)
      replace LC := Aside.mk (LC.out.alloc (.cells #[.int .i64 rv, .int .i64 0, .int .i64 0] 136))
      replace L2 := Aside.mk (L2.out.alloc (.cells #[.int .i64 rv, .int .i64 0, .int .i64 0] 136))
      replace L3 := Aside.mk (L3.out.alloc (.cells #[.int .i64 rv, .int .i64 0, .int .i64 0] 136))
      replace KK := Aside.mk (KK.out.alloc (.cells #[.int .i64 rv, .int .i64 0, .int .i64 0] 136))
      replace HO := Aside.mk (owRow_alloc ow_reg HO.out (.cells #[.int .i64 rv, .int .i64 0, .int .i64 0] 136))
      have HND : Aside (∀ b ∈ D, b < w4.heap.size) := ⟨fun b hb => (HN.out.2 b hb).2⟩
      replace HN := Aside.mk (HN.out.alloc (.cells #[.int .i64 rv, .int .i64 0, .int .i64 0] 136))
      have L4 := Aside.mk (Loc.new w4 #[.int .i64 rv, .int .i64 0, .int .i64 0] 136)
      obtain ⟨B4, hB4⟩ : ∃ B4, B4 = w4.heap.size := ⟨_, rfl⟩
      have HB4 : Aside (B3 < B4 ∧ ∀ b ∈ D, b < B4) := ⟨by have := q3; omega, fun b hb => by have := HND.out b hb; omega⟩
      rw [← hB4] at L4
      obtain ⟨w5, hw5⟩ : ∃ w5, w5 = w4.alloc (.cells #[.int .i64 rv, .int .i64 0, .int .i64 0] 136) := ⟨_, rfl⟩
      rw [← hw5] at LC L2 L3 L4 KK HO HN
      try rw [← hw5]
      try rw [← hB4]
      clear hw5 hB4 HND
      refine (l05Var_calls _ C t sa ht LC.out).mono ?_
      rintro e w6a ⟨rfl, hlc, hk⟩
      obtain ⟨rt, sb, hrt⟩ : ∃ v_ s_, numS t sa = (v_, s_) := ⟨_, _, rfl⟩
      rw [hrt] at hlc
      simp only [hrt]
      have Ert := Aside.mk hrt
      replace LC := Aside.mk hlc
      replace L2 := Aside.mk (L2.out.keep hk (by simp only [List.mem_singleton]; have := HC.out; (try have := HB3.out); (try have := HB4.out); omega))
      replace L3 := Aside.mk (L3.out.keep hk (by simp only [List.mem_singleton]; have := HC.out; (try have := HB3.out); (try have := HB4.out); omega))
      replace L4 := Aside.mk (L4.out.keep hk (by simp only [List.mem_singleton]; have := HC.out; (try have := HB3.out); (try have := HB4.out); omega))
      replace HO := Aside.mk (owRow_keep2 ow_reg HO.out hk (fun b hb hx => by rw [List.mem_singleton] at hx; have := (HN.out.2 b hb).1; have := HC.out; have := HB3.out; have := HZ.out; omega))
      replace HN := Aside.mk (HN.out.mono hk.size)
      replace KK := Aside.mk (KK.out.trans hk)
      clear hlc hk hrt
      (try clear lC qC fC)
      have lC := LC.out.cells
      have qC := LC.out.lt
      have fC := LC.out.free
      (try clear l2 q2 f2)
      have l2 := L2.out.cells
      have q2 := L2.out.lt
      have f2 := L2.out.free
      (try clear l3 q3 f3)
      have l3 := L3.out.cells
      have q3 := L3.out.lt
      have f3 := L3.out.free
      (try clear l4 q4 f4)
      have l4 := L4.out.cells
      have q4 := L4.out.lt
      have f4 := L4.out.free
      have hne3 : B3 ≠ B4 := by have := HB4.out.1; omega
      have hneC : C ≠ B4 := by have := HB4.out.1; have := HB3.out; omega
      have hne2 : B2 ≠ B4 := by have := HB4.out.1; have := HB3.out; omega
      go_wp2_with (fail)
      replace LC := Aside.mk (LC.out.set (p := ⟨B4, 1, none⟩) hneC (.int .i64 rt))
      replace L2 := Aside.mk (L2.out.set (p := ⟨B4, 1, none⟩) hne2 (.int .i64 rt))
      replace L3 := Aside.mk (L3.out.set (p := ⟨B4, 1, none⟩) hne3 (.int .i64 rt))
      replace L4 : Aside (Loc _ B4 #[.int .i64 rv, .int .i64 rt, .int .i64 0] 136) := Aside.mk (L4.out.put 1 (.int .i64 rt))
      replace HO := Aside.mk (owRow_set ow_reg HO.out (p := ⟨B4, 1, none⟩) (fun hx => by have := HB4.out.2 _ hx; exact absurd this (Nat.lt_irrefl _)) (.int .i64 rt))
      replace HN := Aside.mk (HN.out.set ⟨B4, 1, none⟩ (.int .i64 rt))
      replace KK : Aside (Keep [C] wk _) := Aside.mk (KK.out.setNew (p := ⟨B4, 1, none⟩) (by have := HB3.out; have := HB4.out.1; have := HK.out; show _ ≤ B4; omega) (.int .i64 rt))
      clear lC qC fC l3 q3 f3 l4 q4 f4
      clear l2 q2 f2
      obtain ⟨w5b, hw5b⟩ : ∃ w5b, w5b = w6a.setCell ⟨B4, 1, none⟩ (.int .i64 rt) := ⟨_, rfl⟩
      rw [← hw5b] at LC L2 L3 L4 KK HO HN
      try rw [← hw5b]
      clear hw5b
      refine (l05Var_calls _ C t sb ht LC.out).mono ?_
      rintro e w6 ⟨rfl, hlc, hk⟩
      obtain ⟨ry, sc, hry⟩ : ∃ v_ s_, numS t sb = (v_, s_) := ⟨_, _, rfl⟩
      rw [hry] at hlc
      simp only [hry]
      have Ery := Aside.mk hry
      replace LC := Aside.mk hlc
      replace L2 := Aside.mk (L2.out.keep hk (by simp only [List.mem_singleton]; have := HC.out; (try have := HB3.out); (try have := HB4.out); omega))
      replace L3 := Aside.mk (L3.out.keep hk (by simp only [List.mem_singleton]; have := HC.out; (try have := HB3.out); (try have := HB4.out); omega))
      replace L4 := Aside.mk (L4.out.keep hk (by simp only [List.mem_singleton]; have := HC.out; (try have := HB3.out); (try have := HB4.out); omega))
      replace HO := Aside.mk (owRow_keep2 ow_reg HO.out hk (fun b hb hx => by rw [List.mem_singleton] at hx; have := (HN.out.2 b hb).1; have := HC.out; have := HB3.out; have := HZ.out; omega))
      replace HN := Aside.mk (HN.out.mono hk.size)
      replace KK := Aside.mk (KK.out.trans hk)
      clear hlc hk hry
      (try clear lC qC fC)
      have lC := LC.out.cells
      have qC := LC.out.lt
      have fC := LC.out.free
      (try clear l2 q2 f2)
      have l2 := L2.out.cells
      have q2 := L2.out.lt
      have f2 := L2.out.free
      (try clear l3 q3 f3)
      have l3 := L3.out.cells
      have q3 := L3.out.lt
      have f3 := L3.out.free
      (try clear l4 q4 f4)
      have l4 := L4.out.cells
      have q4 := L4.out.lt
      have f4 := L4.out.free
      have hS : Aside (regsS t 3 s2 = ((l ++ [(⟨rv, rt, ry⟩ : Reg)]) ++ (regsS t (3 - (i + 1)) sc).1, (regsS t (3 - (i + 1)) sc).2)) := ⟨by
        rw [HS.out, show 3 - i = (3 - (i + 1)) + 1 by omega]
        simp only [regsS, regS, Erv.out, Ert.out, Ery.out, List.append_assoc, List.singleton_append]⟩
      have hb4 : B4 ∉ D := fun hx => by have := HB4.out.2 _ hx; omega
      have hk4 : wk.heap.size ≤ B4 := by have := HB3.out; have := HB4.out.1; have := HK.out; omega
      obtain ⟨wx, hwx⟩ : ∃ wx, wx = (w6.setCell ⟨B4, 2, none⟩ (.int .i64 ry)) := ⟨_, rfl⟩
      have HOx : Aside (owRegs wx D (.slice Av nv cv) l) := ⟨by rw [hwx]; exact (owRow_set ow_reg HO.out (p := ⟨B4, 2, none⟩) hb4 _)⟩
      have HNx : Aside (New wz wx D) := ⟨by rw [hwx]; exact (HN.out.set _ _)⟩
      have KKx : Aside (Keep [C] wk wx) := ⟨by rw [hwx]; exact (KK.out.setNew (p := ⟨B4, 2, none⟩) hk4 _)⟩
      have LCx : Aside (Loc wx C #[.string t, .int .i64 sc.1, .bool sc.2] 150) := ⟨by rw [hwx]; exact (LC.out.set (p := ⟨B4, 2, none⟩) hneC _)⟩
      have L2x : Aside (Loc wx B2 #[.int .i64 0, .int .i64 0, .slice none 0 0, .string ⟨#[]⟩] 58) := ⟨by rw [hwx]; exact (L2.out.set (p := ⟨B4, 2, none⟩) hne2 _)⟩
      have L3x : Aside (Loc wx B3 #[.int .i64 g, .int .i64 u, .slice Av nv cv, .string ⟨#[]⟩] 58) := ⟨by rw [hwx]; exact (L3.out.set (p := ⟨B4, 2, none⟩) hne3 _)⟩
      have HWx : Aside (w6.heap.size = wx.heap.size) := ⟨by rw [hwx]; simp [World.setCell]⟩
      have HWX := Aside.mk hwx
      have HZx : Aside (wz.heap.size ≤ wx.heap.size) := ⟨by have := L3x.out.lt; have := HZ.out; omega⟩
      clear hwx
      go_wp2_with (at_builtin; rw [← HWX.out]; refine list_snoc el_reg ow_reg (owRow_alloc ow_reg HOx.out (.cells #[.int .i64 rv, .int .i64 rt, .int .i64 ry] 136)) (w0 := wz) (y := (⟨rv, rt, ry⟩ : Reg)) (Dx := []) (cs := [.int .i64 rv, .int .i64 rt, .int .i64 ry]) ⟨rfl, rfl⟩ (by rw [List.append_nil]; exact HNx.out.alloc _) (by have := HZx.out; simp; omega) (.tmp 37) (.tmp 39) (by rfl) (by rfl) (by rfl) w6.heap.size (by rfl) (by rw [HWx.out]; exact Loc.new wx _ _) (by have := HLE.out; omega) (by have := HLE.out; omega) (w6.heap.size + 1) (by have := HWx.out; simp; omega) (fun g2 cap w' D' hk1 hk2 hk3 hk => ?_); have hoC : ∀ x, x < wz.heap.size → x ∉ D := fun x hx hx2 => (by have := (HNx.out.2 x hx2).1; omega); have LC5 := Aside.mk ((LCx.out.alloc (.cells #[.int .i64 rv, .int .i64 rt, .int .i64 ry] 136)).keep hk (hoC _ (by have := HZ.out; have := HB3.out; omega))); have L25 := Aside.mk ((L2x.out.alloc (.cells #[.int .i64 rv, .int .i64 rt, .int .i64 ry] 136)).keep hk (hoC _ (by have := HZ.out; have := HB3.out; omega))); have L35 := Aside.mk ((L3x.out.alloc (.cells #[.int .i64 rv, .int .i64 rt, .int .i64 ry] 136)).keep hk (hoC _ (by have := HZ.out; omega))); have HO5 := Aside.mk hk1; have HN5 := Aside.mk hk2; have KK5 : Aside (Keep [C] wk w') := ⟨(KKx.out.alloc (.cells #[.int .i64 rv, .int .i64 rt, .int .i64 ry] 136)).keepNew hk (fun b hb => by have := (HNx.out.2 b hb).1; have := HK.out; have := HB3.out; have := HZ.out; omega)⟩; clear hk1 hk2 hk3 hk hoC; clear LC L2 L3 L4 KK HO HN LCx L2x L3x KKx HOx HNx HZx HWx HWX lC qC fC l3 q3 f3 l4 q4 f4 l2 q2 f2; have l3 := L35.out.cells; have q3 := L35.out.lt; have f3 := L35.out.free)
      have HB3n : B3 ∉ D' := fun hx => by have := (HN5.out.2 _ hx).1; have := HZ.out; omega
      go_roundw
      case rel => exact ⟨i + 1, _, _, _, D', l ++ [⟨rv, rt, ry⟩], sc, by omega, by go_num, by have := HLE.out; simp; omega, ⟨LC5.out.set (p := ⟨B3, 2, none⟩) (by show _ ≠ B3; have := HB3.out; omega) _⟩, ⟨L25.out.set (p := ⟨B3, 2, none⟩) (by show _ ≠ B3; have := HB3.out; omega) _⟩, ⟨L35.out.put 2 _⟩, ⟨owRow_set ow_reg HO5.out (p := ⟨B3, 2, none⟩) HB3n _⟩, ⟨HN5.out.set _ _⟩, ⟨by have := L35.out.lt; have := HZ.out; simp [World.setCell]; omega⟩, ⟨KK5.out.setNew (p := ⟨B3, 2, none⟩) (by have := HB3.out; have := HK.out; show _ ≤ B3; omega) _⟩, hS⟩
      case measure => simp [intOf]; omega
    · have hi3 : i = 3 := by omega
      have hltI : ¬ ((i : Int) < 3) := by omega
      have hS : Aside (regsS t 3 s2 = (l, s)) := ⟨by rw [HS.out, hi3]; simp [regsS]⟩
      clear hlt hi3 HS
      go_wp2_with (fail)
      refine (l05Short_calls _ C t s ht LC.out).mono ?_
      rintro e w7 ⟨rfl, hlc, hk⟩
      obtain ⟨tx, s9, htx⟩ : ∃ v_ s_, shortS t s = (v_, s_) := ⟨_, _, rfl⟩
      rw [htx] at hlc
      simp only [htx]
      have Etx := Aside.mk htx
      replace LC := Aside.mk hlc
      replace L2 := Aside.mk (L2.out.keep hk (by simp only [List.mem_singleton]; have := HC.out; (try have := HB3.out); (try have := HB4.out); omega))
      replace L3 := Aside.mk (L3.out.keep hk (by simp only [List.mem_singleton]; have := HC.out; (try have := HB3.out); (try have := HB4.out); omega))
      replace HO := Aside.mk (owRow_keep2 ow_reg HO.out hk (fun b hb hx => by rw [List.mem_singleton] at hx; have := (HN.out.2 b hb).1; have := HC.out; have := HB3.out; have := HZ.out; omega))
      replace HN := Aside.mk (HN.out.mono hk.size)
      replace KK := Aside.mk (KK.out.trans hk)
      clear hlc hk htx
      (try clear lC qC fC)
      have lC := LC.out.cells
      have qC := LC.out.lt
      have fC := LC.out.free
      (try clear l2 q2 f2)
      have l2 := L2.out.cells
      have q2 := L2.out.lt
      have f2 := L2.out.free
      (try clear l3 q3 f3)
      have l3 := L3.out.cells
      have q3 := L3.out.lt
      have f3 := L3.out.free
      have HM : Aside (mailS t s0 = (⟨g, u, l, tx⟩, s9)) := ⟨by unfold mailS; simp only [Eg.out, Eu.out, hS.out, Etx.out]⟩
      have HTX : Aside (tx.size ≤ 140737488351232) := ⟨by have h := HTX0.out; rw [HM.out] at h; dsimp only at h; omega⟩
      replace HM : Aside (mailS t (p, false) = (⟨g, u, l, tx⟩, s9)) := ⟨by rw [← HS0.out]; exact HM.out⟩
      obtain ⟨n, bad⟩ := s9
      have hne32 : B3 ≠ B2 := by have := HB3.out; omega
      have hne3C : B3 ≠ C := by have := HB3.out; omega
      have HDn : Aside (∀ b ∈ D, B3 < b) := ⟨fun b hb => by have := (HN.out.2 b hb).1; have := HZ.out; omega⟩
      have HBB : Aside (w.heap.size ≤ B2 ∧ B2 < C ∧ C < B3) := ⟨by have := HWB.out; have := HC.out; have := HB3.out; omega⟩
      have HDB : Aside (∀ b ∈ D, b ≠ B2) := ⟨fun b hb => by have := HDn.out b hb; have := HB3.out; omega⟩
      rw [HWK.out] at KK
      have hnn : New wz w7 D := HN.out
      have HNw : Aside (New w w7 D) := ⟨hnn.1, fun b hb => ⟨by have := HDn.out b hb; have := HBB.out; omega, (hnn.2 b hb).2⟩⟩
      clear hnn
      replace L2 := Aside.mk (L2.out.set (p := ⟨B3, 3, none⟩) (by show _ ≠ B3; omega) (.string tx))
      replace LC := Aside.mk (LC.out.set (p := ⟨B3, 3, none⟩) (by show _ ≠ B3; omega) (.string tx))
      have L8 : Aside (Loc _ B3 #[.int .i64 g, .int .i64 u, .slice Av nv cv, .string tx] 58) := Aside.mk (L3.out.put 3 (.string tx))
      replace HO := Aside.mk (owRow_set ow_reg HO.out (p := ⟨B3, 3, none⟩) (fun hx => by have := HDn.out _ hx; exact absurd this (Nat.lt_irrefl _)) (.string tx))
      clear HN
      have HN := Aside.mk (HNw.out.set ⟨B3, 3, none⟩ (.string tx))
      replace KK := Aside.mk (KK.out.setNew (p := ⟨B3, 3, none⟩) (by have := HBB.out; show _ ≤ B3; omega) (.string tx))
      clear L3 HNw
      have HBF : Aside (Below w.heap.size w _) := ⟨KK.out.below (w0 := w) (fun b hb => by rw [List.mem_singleton] at hb; have := HBB.out; omega) (Nat.le_refl _)⟩
      cases bad
      rotate_left
      · have HE : Aside (readMail t p = (mail0, 0, false)) := ⟨by unfold readMail; rw [HM.out]; rfl⟩
        go_wp2_with (fail)
        refine bodyPost_ret (v := .tuple #[.agg #[.int .i64 0, .int .i64 0, .slice none 0 0, .string ⟨#[]⟩], .int .i64 0, .bool false]) (by simp [results, go_sem, l2, q2, hne32, hne3C]) rfl ?_
        rw [HE.out]
        refine ⟨_, [], rfl, ow_nil _ _ _ _, New.nil, ?_⟩
        (repeat (first | (with_reducible exact HBF.out) | (with_reducible refine below_set ?_ (by have := HBB.out; dsimp only; omega) _)))
      · rcases hok : mailOk (⟨g, u, l, tx⟩ : Mail) with _ | _
        · have HE : Aside (readMail t p = (mail0, 0, false)) := ⟨by unfold readMail; rw [HM.out]; simp [hok]⟩
          have HOK := Aside.mk hok
          clear hok
          go_wp2_with (fail)
          refine (specMailOk_calls _ _ (⟨g, u, l, tx⟩ : Mail) (owRow_rd ow_reg HO.out) (by have h_ := HTX.out; first | omega | (dsimp only; omega))).mono ?_
          rintro e w9 ⟨rfl, hb⟩
          rw [HOK.out]
          replace L2 := Aside.mk (L2.out.below hb)
          replace L8 := Aside.mk (L8.out.below hb)
          replace LC := Aside.mk (LC.out.below hb)
          replace HBF := Aside.mk (below_step HBF.out hb)
          replace HO := Aside.mk (owRow_below ow_reg HO.out hb)
          replace HN := Aside.mk (HN.out.mono hb.size)
          clear hb l2 q2 f2
          (try clear l8 q8)
          clear lC qC
          (try clear l3 q3 f3)
          (try clear fC)
          have l2 := L2.out.cells
          have q2 := L2.out.lt
          have f2 := L2.out.free
          go_wp2
          refine bodyPost_ret (v := .tuple #[.agg #[.int .i64 0, .int .i64 0, .slice none 0 0, .string ⟨#[]⟩], .int .i64 0, .bool false]) (by simp [results, go_sem, l2, q2, hne32, hne3C]) rfl ?_
          rw [HE.out]
          refine ⟨_, [], rfl, ow_nil _ _ _ _, New.nil, ?_⟩
          (repeat (first | (with_reducible exact HBF.out) | (with_reducible refine below_set ?_ (by have := HBB.out; dsimp only; omega) _)))
        · have HE : Aside (readMail t p = ((⟨g, u, l, tx⟩ : Mail), n, true)) := ⟨by unfold readMail; rw [HM.out]; simp [hok]⟩
          have HOK := Aside.mk hok
          clear hok
          go_wp2_with (fail)
          refine (specMailOk_calls _ _ (⟨g, u, l, tx⟩ : Mail) (owRow_rd ow_reg HO.out) (by have h_ := HTX.out; first | omega | (dsimp only; omega))).mono ?_
          rintro e w9 ⟨rfl, hb⟩
          rw [HOK.out]
          replace L2 := Aside.mk (L2.out.below hb)
          replace L8 := Aside.mk (L8.out.below hb)
          replace LC := Aside.mk (LC.out.below hb)
          replace HBF := Aside.mk (below_step HBF.out hb)
          replace HO := Aside.mk (owRow_below ow_reg HO.out hb)
          replace HN := Aside.mk (HN.out.mono hb.size)
          clear hb l2 q2 f2
          (try clear l8 q8)
          clear lC qC
          (try clear l3 q3 f3)
          (try clear fC)
          have l2 := L2.out.drew'.cells
          have q2 := L2.out.drew'.lt
          have f2 := L2.out.drew'.free
          have l2' := L2.out.cells
          have q2' := L2.out.lt
          have f2' := L2.out.free
          go_wp2
          refine zBegin (S := (fun w' => Loc w' C #[.string t, .int .i64 n, .bool false] 150 ∧ Loc w' B3 #[.int .i64 g, .int .i64 u, .slice Av nv cv, .string tx] 58)) (z := 8) (by kernel_rfl) (by exact ⟨LC.out.drew', L8.out.drew'⟩) (fun hHeld => ?_)
          refine zT 0 55 hHeld ?_
          refine zT 1 56 hHeld ?_
          refine zT 2 57 hHeld ?_
          refine zT 3 58 hHeld ?_
          refine zT 4 59 hHeld ?_
          refine zReady (rs := [5]) (by kernel_rfl) (by simp) ?_
          refine zOne (by decide) rfl (fun K hK => ?_) zNil
          go_simp
          refine hK.out _ _ (by (refine ⟨?_, ?_⟩ <;> (repeat (first | (with_reducible exact hHeld.1) | (with_reducible exact hHeld.2) | (with_reducible exact LC.out) | (with_reducible exact L8.out) | (with_reducible refine Loc.set ?_ (by have := HBB.out; show _ ≠ B2; omega) _) | (with_reducible refine Loc.drew' ?_))))) (fun hHeld => ?_)
          clear hK K
          (try simp only [Act.put, List.setIfInBounds_toArray, List.set_cons_zero, List.set_cons_succ])
          refine zT 6 5 hHeld ?_
          refine zT 7 6 hHeld ?_
          refine zDone (by kernel_rfl) ?_ _
          clear hHeld
          go_wp2
          refine bodyPost_ret (v := .tuple #[.agg #[.int .i64 g, .int .i64 u, .slice Av nv cv, .string tx], .int .i64 n, .bool true]) (by simp [results, go_sem, l2, q2, l2', q2', hne32, hne3C]) rfl ?_
          rw [HE.out]
          refine ⟨_, D, rfl, ?_, ?_, ?_⟩
          · (repeat (first | (with_reducible exact HO.out) | (with_reducible refine owRow_drew ow_reg ?_) | (with_reducible refine owRow_set ow_reg ?_ (fun hx => by have := HDB.out _ hx; exact absurd rfl this) _)))
          · (repeat (first | (with_reducible exact HN.out) | (with_reducible refine New.drew ?_) | (with_reducible refine New.set ?_ _ _)))
          · (repeat (first | (with_reducible exact HBF.out) | (with_reducible refine below_drew ?_) | (with_reducible refine below_set ?_ (by have := HBB.out; dsimp only; omega) _)))
end Go.Proofs.Ytjfjpabfkembcaa.H
