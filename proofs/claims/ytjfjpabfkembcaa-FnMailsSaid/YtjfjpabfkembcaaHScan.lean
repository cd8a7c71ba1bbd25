/- Numbers and texts read one behind the other, off a cursor: the walks. Printed by this session's gen_readmail.py. -/
import Derived.Test.YtjfjpabfkembcaaHReadShort
namespace Go.Proofs.Ytjfjpabfkembcaa.H
open Go.RowKit
set_option linter.unusedVariables false
set_option linter.unusedSimpArgs false
/-- A number read off a text: where it goes on, and whether something did not stand there. -/
def numS (t : ByteArray) (s : Int × Bool) : Int × Int × Bool :=
  if s.2 = true then (0, s.1, true) else if (readVar t s.1).2.2 = true then ((readVar t s.1).1, (readVar t s.1).2.1, false) else (0, s.1, true)
def shortS (t : ByteArray) (s : Int × Bool) : ByteArray × Int × Bool :=
  if s.2 = true then (⟨#[]⟩, s.1, true) else if (readShort t s.1).2.2 = true then ((readShort t s.1).1, (readShort t s.1).2.1, false) else (⟨#[]⟩, s.1, true)
set_option maxHeartbeats 2000000 in
set_option maxRecDepth 100000 in
theorem num_calls (w : World) (C : Nat) (t : ByteArray) (s : Int × Bool) (ht : t.size ≤ 140737488351232) (hl : Loc w C #[.string t, .int .i64 s.1, .bool s.2] 155) :
    Calls Try.prog 179 #[.pointer (some ⟨C, 0, none⟩)] w fun e w' => e = .returned (.int .i64 (numS t s).1) ∧ Loc w' C #[.string t, .int .i64 (numS t s).2.1, .bool (numS t s).2.2] 155 ∧ Keep [C] w w' := by
  obtain ⟨p, bad⟩ := s
  obtain ⟨n, f, ok, hr⟩ : ∃ n f ok, readVar t p = (n, f, ok) := ⟨_, _, _, rfl⟩
  have HE : Aside (numS t (p, bad) = if bad = true then (0, p, true) else if ok = true then (n, f, false) else (0, p, true)) := ⟨by unfold numS; dsimp only; rw [hr]⟩
  have HR := Aside.mk hr
  have LC := Aside.mk hl
  dsimp only at LC
  clear hr hl
  have l0 := LC.out.cells
  have q0 := LC.out.lt
  cases bad
  cases ok
  rotate_left
  · have HT : Aside (numS t (p, false) = (n, f, false)) := ⟨by rw [HE.out]; rfl⟩
    clear HE
    go_enter Try.func179, Try.ntmps179
    go_wp2
    refine zBegin (S := (fun w' => Loc w' C #[.string t, .int .i64 p, .bool false] 155)) (z := 16) (by kernel_rfl) (by exact LC.out.drew') (fun hHeld => ?_)
    refine zT 0 7 hHeld ?_
    refine zT 1 8 hHeld ?_
    refine zT 2 9 hHeld ?_
    refine zT 3 10 hHeld ?_
    refine zT 4 11 hHeld ?_
    refine zT 5 12 hHeld ?_
    refine zT 6 13 hHeld ?_
    refine zT 7 14 hHeld ?_
    refine zReady (rs := [8]) (by kernel_rfl) (by simp) ?_
    refine zOne (by decide) rfl (fun K hK => ?_) zNil
    go_simp
    refine (readVar_calls _ _ _ ht).mono ?_; rintro e w1 ⟨rfl, hb⟩; rw [HR.out]; dsimp only
    refine hK.out _ _ (by exact hHeld.below hb) (fun hHeld => ?_)
    clear hK K
    (try simp only [Act.put, List.setIfInBounds_toArray, List.set_cons_zero, List.set_cons_succ])
    replace LC := Aside.mk hHeld; have HK := Aside.mk (Keep.of_below (D := [C]) (below_step (w0 := w) (below_drew (Below.refl _ _)) hb)); clear l0 q0 hb; have l0 := LC.out.cells; have q0 := LC.out.lt; have f0 := LC.out.free
    refine zT 9 6 hHeld ?_
    refine zT 10 16 hHeld ?_
    refine zT 11 17 hHeld ?_
    refine zT 12 18 hHeld ?_
    refine zT 13 3 hHeld ?_
    refine zT 14 4 hHeld ?_
    refine zT 15 5 hHeld ?_
    refine zDone (by kernel_rfl) ?_ _
    clear hHeld
    go_wp2
    go_ret
    rw [HT.out]
    exact ⟨rfl, LC.out.put 1 (.int .i64 f), HK.out.set (by simp) _⟩
  · have HT : Aside (numS t (p, true) = (0, p, true)) := ⟨by rw [HE.out]; rfl⟩
    clear HE
    go_wp2
    refine zBegin (S := (fun w' => Loc w' C #[.string t, .int .i64 p, .bool true] 155)) (z := 16) (by kernel_rfl) (by exact LC.out.drew') (fun hHeld => ?_)
    refine zT 0 7 hHeld ?_
    refine zT 1 8 hHeld ?_
    refine zT 2 9 hHeld ?_
    refine zT 3 10 hHeld ?_
    refine zT 4 11 hHeld ?_
    refine zT 5 12 hHeld ?_
    refine zT 6 13 hHeld ?_
    refine zT 7 14 hHeld ?_
    refine zReady (rs := [8]) (by kernel_rfl) (by simp) ?_
    refine zOne (by decide) rfl (fun K hK => ?_) zNil
    go_simp
    refine (readVar_calls _ _ _ ht).mono ?_; rintro e w1 ⟨rfl, hb⟩; rw [HR.out]; dsimp only
    refine hK.out _ _ (by exact hHeld.below hb) (fun hHeld => ?_)
    clear hK K
    (try simp only [Act.put, List.setIfInBounds_toArray, List.set_cons_zero, List.set_cons_succ])
    replace LC := Aside.mk hHeld; have HK := Aside.mk (Keep.of_below (D := [C]) (below_step (w0 := w) (below_drew (Below.refl _ _)) hb)); clear l0 q0 hb; have l0 := LC.out.cells; have q0 := LC.out.lt; have f0 := LC.out.free
    refine zT 9 6 hHeld ?_
    refine zT 10 16 hHeld ?_
    refine zT 11 17 hHeld ?_
    refine zT 12 18 hHeld ?_
    refine zT 13 3 hHeld ?_
    refine zT 14 4 hHeld ?_
    refine zT 15 5 hHeld ?_
    refine zDone (by kernel_rfl) ?_ _
    clear hHeld
    go_wp2
    go_ret
    rw [HT.out]
    exact ⟨rfl, LC.out.put 2 (.bool true), HK.out.set (by simp) _⟩
  · have HT : Aside (numS t (p, false) = (0, p, true)) := ⟨by rw [HE.out]; rfl⟩
    clear HE
    go_wp2
    refine zBegin (S := (fun w' => Loc w' C #[.string t, .int .i64 p, .bool false] 155)) (z := 16) (by kernel_rfl) (by exact LC.out.drew') (fun hHeld => ?_)
    refine zT 0 7 hHeld ?_
    refine zT 1 8 hHeld ?_
    refine zT 2 9 hHeld ?_
    refine zT 3 10 hHeld ?_
    refine zT 4 11 hHeld ?_
    refine zT 5 12 hHeld ?_
    refine zT 6 13 hHeld ?_
    refine zT 7 14 hHeld ?_
    refine zReady (rs := [8]) (by kernel_rfl) (by simp) ?_
    refine zOne (by decide) rfl (fun K hK => ?_) zNil
    go_simp
    refine (readVar_calls _ _ _ ht).mono ?_; rintro e w1 ⟨rfl, hb⟩; rw [HR.out]; dsimp only
    refine hK.out _ _ (by exact hHeld.below hb) (fun hHeld => ?_)
    clear hK K
    (try simp only [Act.put, List.setIfInBounds_toArray, List.set_cons_zero, List.set_cons_succ])
    replace LC := Aside.mk hHeld; have HK := Aside.mk (Keep.of_below (D := [C]) (below_step (w0 := w) (below_drew (Below.refl _ _)) hb)); clear l0 q0 hb; have l0 := LC.out.cells; have q0 := LC.out.lt; have f0 := LC.out.free
    refine zT 9 6 hHeld ?_
    refine zT 10 16 hHeld ?_
    refine zT 11 17 hHeld ?_
    refine zT 12 18 hHeld ?_
    refine zT 13 3 hHeld ?_
    refine zT 14 4 hHeld ?_
    refine zT 15 5 hHeld ?_
    refine zDone (by kernel_rfl) ?_ _
    clear hHeld
    go_wp2
    go_ret
    rw [HT.out]
    exact ⟨rfl, LC.out.put 2 (.bool true), HK.out.set (by simp) _⟩
set_option maxHeartbeats 2000000 in
set_option maxRecDepth 100000 in
theorem l05Var_calls (w : World) (C : Nat) (t : ByteArray) (s : Int × Bool) (ht : t.size ≤ 140737488351232) (hl : Loc w C #[.string t, .int .i64 s.1, .bool s.2] 150) :
    Calls Try.prog 138 #[.pointer (some ⟨C, 0, none⟩)] w fun e w' => e = .returned (.int .i64 (numS t s).1) ∧ Loc w' C #[.string t, .int .i64 (numS t s).2.1, .bool (numS t s).2.2] 150 ∧ Keep [C] w w' := by
  obtain ⟨p, bad⟩ := s
  obtain ⟨n, f, ok, hr⟩ : ∃ n f ok, readVar t p = (n, f, ok) := ⟨_, _, _, rfl⟩
  have HE : Aside (numS t (p, bad) = if bad = true then (0, p, true) else if ok = true then (n, f, false) else (0, p, true)) := ⟨by unfold numS; dsimp only; rw [hr]⟩
  have HR := Aside.mk hr
  have LC := Aside.mk hl
  dsimp only at LC
  clear hr hl
  have l0 := LC.out.cells
  have q0 := LC.out.lt
  cases bad
  cases ok
  rotate_left
  · have HT : Aside (numS t (p, false) = (n, f, false)) := ⟨by rw [HE.out]; rfl⟩
    clear HE
    go_enter Try.func138, Try.ntmps138
    go_wp2
    refine zBegin (S := (fun w' => Loc w' C #[.string t, .int .i64 p, .bool false] 150)) (z := 16) (by kernel_rfl) (by exact LC.out.drew') (fun hHeld => ?_)
    refine zT 0 7 hHeld ?_
    refine zT 1 8 hHeld ?_
    refine zT 2 9 hHeld ?_
    refine zT 3 10 hHeld ?_
    refine zT 4 11 hHeld ?_
    refine zT 5 12 hHeld ?_
    refine zT 6 13 hHeld ?_
    refine zT 7 14 hHeld ?_
    refine zReady (rs := [8]) (by kernel_rfl) (by simp) ?_
    refine zOne (by decide) rfl (fun K hK => ?_) zNil
    go_simp
    refine (specReadVar_calls _ _ _ ht).mono ?_; rintro e w1 ⟨rfl, hb⟩; rw [HR.out]; dsimp only
    refine hK.out _ _ (by exact hHeld.below hb) (fun hHeld => ?_)
    clear hK K
    (try simp only [Act.put, List.setIfInBounds_toArray, List.set_cons_zero, List.set_cons_succ])
    replace LC := Aside.mk hHeld; have HK := Aside.mk (Keep.of_below (D := [C]) (below_step (w0 := w) (below_drew (Below.refl _ _)) hb)); clear l0 q0 hb; have l0 := LC.out.cells; have q0 := LC.out.lt; have f0 := LC.out.free
    refine zT 9 6 hHeld ?_
    refine zT 10 16 hHeld ?_
    refine zT 11 17 hHeld ?_
    refine zT 12 18 hHeld ?_
    refine zT 13 3 hHeld ?_
    refine zT 14 4 hHeld ?_
    refine zT 15 5 hHeld ?_
    refine zDone (by kernel_rfl) ?_ _
    clear hHeld
    go_wp2
    go_ret
    rw [HT.out]
    exact ⟨rfl, LC.out.put 1 (.int .i64 f), HK.out.set (by simp) _⟩
  · have HT : Aside (numS t (p, true) = (0, p, true)) := ⟨by rw [HE.out]; rfl⟩
    clear HE
    go_wp2
    refine zBegin (S := (fun w' => Loc w' C #[.string t, .int .i64 p, .bool true] 150)) (z := 16) (by kernel_rfl) (by exact LC.out.drew') (fun hHeld => ?_)
    refine zT 0 7 hHeld ?_
    refine zT 1 8 hHeld ?_
    refine zT 2 9 hHeld ?_
    refine zT 3 10 hHeld ?_
    refine zT 4 11 hHeld ?_
    refine zT 5 12 hHeld ?_
    refine zT 6 13 hHeld ?_
    refine zT 7 14 hHeld ?_
    refine zReady (rs := [8]) (by kernel_rfl) (by simp) ?_
    refine zOne (by decide) rfl (fun K hK => ?_) zNil
    go_simp
    refine (specReadVar_calls _ _ _ ht).mono ?_; rintro e w1 ⟨rfl, hb⟩; rw [HR.out]; dsimp only
    refine hK.out _ _ (by exact hHeld.below hb) (fun hHeld => ?_)
    clear hK K
    (try simp only [Act.put, List.setIfInBounds_toArray, List.set_cons_zero, List.set_cons_succ])
    replace LC := Aside.mk hHeld; have HK := Aside.mk (Keep.of_below (D := [C]) (below_step (w0 := w) (below_drew (Below.refl _ _)) hb)); clear l0 q0 hb; have l0 := LC.out.cells; have q0 := LC.out.lt; have f0 := LC.out.free
    refine zT 9 6 hHeld ?_
    refine zT 10 16 hHeld ?_
    refine zT 11 17 hHeld ?_
    refine zT 12 18 hHeld ?_
    refine zT 13 3 hHeld ?_
    refine zT 14 4 hHeld ?_
    refine zT 15 5 hHeld ?_
    refine zDone (by kernel_rfl) ?_ _
    clear hHeld
    go_wp2
    go_ret
    rw [HT.out]
    exact ⟨rfl, LC.out.put 2 (.bool true), HK.out.set (by simp) _⟩
  · have HT : Aside (numS t (p, false) = (0, p, true)) := ⟨by rw [HE.out]; rfl⟩
    clear HE
    go_wp2
    refine zBegin (S := (fun w' => Loc w' C #[.string t, .int .i64 p, .bool false] 150)) (z := 16) (by kernel_rfl) (by exact LC.out.drew') (fun hHeld => ?_)
    refine zT 0 7 hHeld ?_
    refine zT 1 8 hHeld ?_
    refine zT 2 9 hHeld ?_
    refine zT 3 10 hHeld ?_
    refine zT 4 11 hHeld ?_
    refine zT 5 12 hHeld ?_
    refine zT 6 13 hHeld ?_
    refine zT 7 14 hHeld ?_
    refine zReady (rs := [8]) (by kernel_rfl) (by simp) ?_
    refine zOne (by decide) rfl (fun K hK => ?_) zNil
    go_simp
    refine (specReadVar_calls _ _ _ ht).mono ?_; rintro e w1 ⟨rfl, hb⟩; rw [HR.out]; dsimp only
    refine hK.out _ _ (by exact hHeld.below hb) (fun hHeld => ?_)
    clear hK K
    (try simp only [Act.put, List.setIfInBounds_toArray, List.set_cons_zero, List.set_cons_succ])
    replace LC := Aside.mk hHeld; have HK := Aside.mk (Keep.of_below (D := [C]) (below_step (w0 := w) (below_drew (Below.refl _ _)) hb)); clear l0 q0 hb; have l0 := LC.out.cells; have q0 := LC.out.lt; have f0 := LC.out.free
    refine zT 9 6 hHeld ?_
    refine zT 10 16 hHeld ?_
    refine zT 11 17 hHeld ?_
    refine zT 12 18 hHeld ?_
    refine zT 13 3 hHeld ?_
    refine zT 14 4 hHeld ?_
    refine zT 15 5 hHeld ?_
    refine zDone (by kernel_rfl) ?_ _
    clear hHeld
    go_wp2
    go_ret
    rw [HT.out]
    exact ⟨rfl, LC.out.put 2 (.bool true), HK.out.set (by simp) _⟩
set_option maxHeartbeats 2000000 in
set_option maxRecDepth 100000 in
theorem short_calls (w : World) (C : Nat) (t : ByteArray) (s : Int × Bool) (ht : t.size ≤ 140737488351232) (hl : Loc w C #[.string t, .int .i64 s.1, .bool s.2] 155) :
    Calls Try.prog 181 #[.pointer (some ⟨C, 0, none⟩)] w fun e w' => e = .returned (.string (shortS t s).1) ∧ Loc w' C #[.string t, .int .i64 (shortS t s).2.1, .bool (shortS t s).2.2] 155 ∧ Keep [C] w w' := by
  obtain ⟨p, bad⟩ := s
  obtain ⟨n, f, ok, hr⟩ : ∃ n f ok, readShort t p = (n, f, ok) := ⟨_, _, _, rfl⟩
  have HE : Aside (shortS t (p, bad) = if bad = true then (⟨#[]⟩, p, true) else if ok = true then (n, f, false) else (⟨#[]⟩, p, true)) := ⟨by unfold shortS; dsimp only; rw [hr]⟩
  have HR := Aside.mk hr
  have LC := Aside.mk hl
  dsimp only at LC
  clear hr hl
  have l0 := LC.out.cells
  have q0 := LC.out.lt
  cases bad
  cases ok
  rotate_left
  · have HT : Aside (shortS t (p, false) = (n, f, false)) := ⟨by rw [HE.out]; rfl⟩
    clear HE
    go_enter Try.func181, Try.ntmps181
    go_wp2
    refine zBegin (S := (fun w' => Loc w' C #[.string t, .int .i64 p, .bool false] 155)) (z := 16) (by kernel_rfl) (by exact LC.out.drew') (fun hHeld => ?_)
    refine zT 0 7 hHeld ?_
    refine zT 1 8 hHeld ?_
    refine zT 2 9 hHeld ?_
    refine zT 3 10 hHeld ?_
    refine zT 4 11 hHeld ?_
    refine zT 5 12 hHeld ?_
    refine zT 6 13 hHeld ?_
    refine zT 7 14 hHeld ?_
    refine zReady (rs := [8]) (by kernel_rfl) (by simp) ?_
    refine zOne (by decide) rfl (fun K hK => ?_) zNil
    go_simp
    refine (readShort_calls _ _ _ ht).mono ?_; rintro e w1 ⟨rfl, hb⟩; rw [HR.out]; dsimp only
    refine hK.out _ _ (by exact hHeld.below hb) (fun hHeld => ?_)
    clear hK K
    (try simp only [Act.put, List.setIfInBounds_toArray, List.set_cons_zero, List.set_cons_succ])
    replace LC := Aside.mk hHeld; have HK := Aside.mk (Keep.of_below (D := [C]) (below_step (w0 := w) (below_drew (Below.refl _ _)) hb)); clear l0 q0 hb; have l0 := LC.out.cells; have q0 := LC.out.lt; have f0 := LC.out.free
    refine zT 9 6 hHeld ?_
    refine zT 10 16 hHeld ?_
    refine zT 11 17 hHeld ?_
    refine zT 12 18 hHeld ?_
    refine zT 13 3 hHeld ?_
    refine zT 14 4 hHeld ?_
    refine zT 15 5 hHeld ?_
    refine zDone (by kernel_rfl) ?_ _
    clear hHeld
    go_wp2
    go_ret
    rw [HT.out]
    exact ⟨rfl, LC.out.put 1 (.int .i64 f), HK.out.set (by simp) _⟩
  · have HT : Aside (shortS t (p, true) = (⟨#[]⟩, p, true)) := ⟨by rw [HE.out]; rfl⟩
    clear HE
    go_wp2
    refine zBegin (S := (fun w' => Loc w' C #[.string t, .int .i64 p, .bool true] 155)) (z := 16) (by kernel_rfl) (by exact LC.out.drew') (fun hHeld => ?_)
    refine zT 0 7 hHeld ?_
    refine zT 1 8 hHeld ?_
    refine zT 2 9 hHeld ?_
    refine zT 3 10 hHeld ?_
    refine zT 4 11 hHeld ?_
    refine zT 5 12 hHeld ?_
    refine zT 6 13 hHeld ?_
    refine zT 7 14 hHeld ?_
    refine zReady (rs := [8]) (by kernel_rfl) (by simp) ?_
    refine zOne (by decide) rfl (fun K hK => ?_) zNil
    go_simp
    refine (readShort_calls _ _ _ ht).mono ?_; rintro e w1 ⟨rfl, hb⟩; rw [HR.out]; dsimp only
    refine hK.out _ _ (by exact hHeld.below hb) (fun hHeld => ?_)
    clear hK K
    (try simp only [Act.put, List.setIfInBounds_toArray, List.set_cons_zero, List.set_cons_succ])
    replace LC := Aside.mk hHeld; have HK := Aside.mk (Keep.of_below (D := [C]) (below_step (w0 := w) (below_drew (Below.refl _ _)) hb)); clear l0 q0 hb; have l0 := LC.out.cells; have q0 := LC.out.lt; have f0 := LC.out.free
    refine zT 9 6 hHeld ?_
    refine zT 10 16 hHeld ?_
    refine zT 11 17 hHeld ?_
    refine zT 12 18 hHeld ?_
    refine zT 13 3 hHeld ?_
    refine zT 14 4 hHeld ?_
    refine zT 15 5 hHeld ?_
    refine zDone (by kernel_rfl) ?_ _
    clear hHeld
    go_wp2
    go_ret
    rw [HT.out]
    exact ⟨rfl, LC.out.put 2 (.bool true), HK.out.set (by simp) _⟩
  · have HT : Aside (shortS t (p, false) = (⟨#[]⟩, p, true)) := ⟨by rw [HE.out]; rfl⟩
    clear HE
    go_wp2
    refine zBegin (S := (fun w' => Loc w' C #[.string t, .int .i64 p, .bool false] 155)) (z := 16) (by kernel_rfl) (by exact LC.out.drew') (fun hHeld => ?_)
    refine zT 0 7 hHeld ?_
    refine zT 1 8 hHeld ?_
    refine zT 2 9 hHeld ?_
    refine zT 3 10 hHeld ?_
    refine zT 4 11 hHeld ?_
    refine zT 5 12 hHeld ?_
    refine zT 6 13 hHeld ?_
    refine zT 7 14 hHeld ?_
    refine zReady (rs := [8]) (by kernel_rfl) (by simp) ?_
    refine zOne (by decide) rfl (fun K hK => ?_) zNil
    go_simp
    refine (readShort_calls _ _ _ ht).mono ?_; rintro e w1 ⟨rfl, hb⟩; rw [HR.out]; dsimp only
    refine hK.out _ _ (by exact hHeld.below hb) (fun hHeld => ?_)
    clear hK K
    (try simp only [Act.put, List.setIfInBounds_toArray, List.set_cons_zero, List.set_cons_succ])
    replace LC := Aside.mk hHeld; have HK := Aside.mk (Keep.of_below (D := [C]) (below_step (w0 := w) (below_drew (Below.refl _ _)) hb)); clear l0 q0 hb; have l0 := LC.out.cells; have q0 := LC.out.lt; have f0 := LC.out.free
    refine zT 9 6 hHeld ?_
    refine zT 10 16 hHeld ?_
    refine zT 11 17 hHeld ?_
    refine zT 12 18 hHeld ?_
    refine zT 13 3 hHeld ?_
    refine zT 14 4 hHeld ?_
    refine zT 15 5 hHeld ?_
    refine zDone (by kernel_rfl) ?_ _
    clear hHeld
    go_wp2
    go_ret
    rw [HT.out]
    exact ⟨rfl, LC.out.put 2 (.bool true), HK.out.set (by simp) _⟩
set_option maxHeartbeats 2000000 in
set_option maxRecDepth 100000 in
theorem l05Short_calls (w : World) (C : Nat) (t : ByteArray) (s : Int × Bool) (ht : t.size ≤ 140737488351232) (hl : Loc w C #[.string t, .int .i64 s.1, .bool s.2] 150) :
    Calls Try.prog 139 #[.pointer (some ⟨C, 0, none⟩)] w fun e w' => e = .returned (.string (shortS t s).1) ∧ Loc w' C #[.string t, .int .i64 (shortS t s).2.1, .bool (shortS t s).2.2] 150 ∧ Keep [C] w w' := by
  obtain ⟨p, bad⟩ := s
  obtain ⟨n, f, ok, hr⟩ : ∃ n f ok, readShort t p = (n, f, ok) := ⟨_, _, _, rfl⟩
  have HE : Aside (shortS t (p, bad) = if bad = true then (⟨#[]⟩, p, true) else if ok = true then (n, f, false) else (⟨#[]⟩, p, true)) := ⟨by unfold shortS; dsimp only; rw [hr]⟩
  have HR := Aside.mk hr
  have LC := Aside.mk hl
  dsimp only at LC
  clear hr hl
  have l0 := LC.out.cells
  have q0 := LC.out.lt
  cases bad
  cases ok
  rotate_left
  · have HT : Aside (shortS t (p, false) = (n, f, false)) := ⟨by rw [HE.out]; rfl⟩
    clear HE
    go_enter Try.func139, Try.ntmps139
    go_wp2
    refine zBegin (S := (fun w' => Loc w' C #[.string t, .int .i64 p, .bool false] 150)) (z := 16) (by kernel_rfl) (by exact LC.out.drew') (fun hHeld => ?_)
    refine zT 0 7 hHeld ?_
    refine zT 1 8 hHeld ?_
    refine zT 2 9 hHeld ?_
    refine zT 3 10 hHeld ?_
    refine zT 4 11 hHeld ?_
    refine zT 5 12 hHeld ?_
    refine zT 6 13 hHeld ?_
    refine zT 7 14 hHeld ?_
    refine zReady (rs := [8]) (by kernel_rfl) (by simp) ?_
    refine zOne (by decide) rfl (fun K hK => ?_) zNil
    go_simp
    refine (specReadShort_calls _ _ _ ht).mono ?_; rintro e w1 ⟨rfl, hb⟩; rw [HR.out]; dsimp only
    refine hK.out _ _ (by exact hHeld.below hb) (fun hHeld => ?_)
    clear hK K
    (try simp only [Act.put, List.setIfInBounds_toArray, List.set_cons_zero, List.set_cons_succ])
    replace LC := Aside.mk hHeld; have HK := Aside.mk (Keep.of_below (D := [C]) (below_step (w0 := w) (below_drew (Below.refl _ _)) hb)); clear l0 q0 hb; have l0 := LC.out.cells; have q0 := LC.out.lt; have f0 := LC.out.free
    refine zT 9 6 hHeld ?_
    refine zT 10 16 hHeld ?_
    refine zT 11 17 hHeld ?_
    refine zT 12 18 hHeld ?_
    refine zT 13 3 hHeld ?_
    refine zT 14 4 hHeld ?_
    refine zT 15 5 hHeld ?_
    refine zDone (by kernel_rfl) ?_ _
    clear hHeld
    go_wp2
    go_ret
    rw [HT.out]
    exact ⟨rfl, LC.out.put 1 (.int .i64 f), HK.out.set (by simp) _⟩
  · have HT : Aside (shortS t (p, true) = (⟨#[]⟩, p, true)) := ⟨by rw [HE.out]; rfl⟩
    clear HE
    go_wp2
    refine zBegin (S := (fun w' => Loc w' C #[.string t, .int .i64 p, .bool true] 150)) (z := 16) (by kernel_rfl) (by exact LC.out.drew') (fun hHeld => ?_)
    refine zT 0 7 hHeld ?_
    refine zT 1 8 hHeld ?_
    refine zT 2 9 hHeld ?_
    refine zT 3 10 hHeld ?_
    refine zT 4 11 hHeld ?_
    refine zT 5 12 hHeld ?_
    refine zT 6 13 hHeld ?_
    refine zT 7 14 hHeld ?_
    refine zReady (rs := [8]) (by kernel_rfl) (by simp) ?_
    refine zOne (by decide) rfl (fun K hK => ?_) zNil
    go_simp
    refine (specReadShort_calls _ _ _ ht).mono ?_; rintro e w1 ⟨rfl, hb⟩; rw [HR.out]; dsimp only
    refine hK.out _ _ (by exact hHeld.below hb) (fun hHeld => ?_)
    clear hK K
    (try simp only [Act.put, List.setIfInBounds_toArray, List.set_cons_zero, List.set_cons_succ])
    replace LC := Aside.mk hHeld; have HK := Aside.mk (Keep.of_below (D := [C]) (below_step (w0 := w) (below_drew (Below.refl _ _)) hb)); clear l0 q0 hb; have l0 := LC.out.cells; have q0 := LC.out.lt; have f0 := LC.out.free
    refine zT 9 6 hHeld ?_
    refine zT 10 16 hHeld ?_
    refine zT 11 17 hHeld ?_
    refine zT 12 18 hHeld ?_
    refine zT 13 3 hHeld ?_
    refine zT 14 4 hHeld ?_
    refine zT 15 5 hHeld ?_
    refine zDone (by kernel_rfl) ?_ _
    clear hHeld
    go_wp2
    go_ret
    rw [HT.out]
    exact ⟨rfl, LC.out.put 2 (.bool true), HK.out.set (by simp) _⟩
  · have HT : Aside (shortS t (p, false) = (⟨#[]⟩, p, true)) := ⟨by rw [HE.out]; rfl⟩
    clear HE
    go_wp2
    refine zBegin (S := (fun w' => Loc w' C #[.string t, .int .i64 p, .bool false] 150)) (z := 16) (by kernel_rfl) (by exact LC.out.drew') (fun hHeld => ?_)
    refine zT 0 7 hHeld ?_
    refine zT 1 8 hHeld ?_
    refine zT 2 9 hHeld ?_
    refine zT 3 10 hHeld ?_
    refine zT 4 11 hHeld ?_
    refine zT 5 12 hHeld ?_
    refine zT 6 13 hHeld ?_
    refine zT 7 14 hHeld ?_
    refine zReady (rs := [8]) (by kernel_rfl) (by simp) ?_
    refine zOne (by decide) rfl (fun K hK => ?_) zNil
    go_simp
    refine (specReadShort_calls _ _ _ ht).mono ?_; rintro e w1 ⟨rfl, hb⟩; rw [HR.out]; dsimp only
    refine hK.out _ _ (by exact hHeld.below hb) (fun hHeld => ?_)
    clear hK K
    (try simp only [Act.put, List.setIfInBounds_toArray, List.set_cons_zero, List.set_cons_succ])
    replace LC := Aside.mk hHeld; have HK := Aside.mk (Keep.of_below (D := [C]) (below_step (w0 := w) (below_drew (Below.refl _ _)) hb)); clear l0 q0 hb; have l0 := LC.out.cells; have q0 := LC.out.lt; have f0 := LC.out.free
    refine zT 9 6 hHeld ?_
    refine zT 10 16 hHeld ?_
    refine zT 11 17 hHeld ?_
    refine zT 12 18 hHeld ?_
    refine zT 13 3 hHeld ?_
    refine zT 14 4 hHeld ?_
    refine zT 15 5 hHeld ?_
    refine zDone (by kernel_rfl) ?_ _
    clear hHeld
    go_wp2
    go_ret
    rw [HT.out]
    exact ⟨rfl, LC.out.put 2 (.bool true), HK.out.set (by simp) _⟩
end Go.Proofs.Ytjfjpabfkembcaa.H
