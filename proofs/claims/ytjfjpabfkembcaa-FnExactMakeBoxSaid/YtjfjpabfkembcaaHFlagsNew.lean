/- New flags, the program's and the reference's: the walks. -/
import Derived.Test.YtjfjpabfkembcaaHL06Copy
import Derived.Test.YtjfjpabfkembcaaHSet2
namespace Go.Proofs.Ytjfjpabfkembcaa.H
open Go.RowKit
set_option linter.unusedVariables false
set_option linter.unusedSimpArgs false
theorem flagsNew_take (n t b : Int) (i : Nat) (hi : i < 3) : (flagsNew n t b).take (i + 1) = (flagsNew n t b).take i ++ [⟨bitAt n i, t, b⟩] := by
  have hj : i = 0 ∨ i = 1 ∨ i = 2 := by omega
  rcases hj with rfl | rfl | rfl <;> rfl
theorem flagsNew_len (n t b : Int) : (flagsNew n t b).length = 3 := rfl
set_option maxHeartbeats 2000000 in
set_option maxRecDepth 100000 in
theorem flagsNew_calls (w : World) (n t b : Int) (hn0 : 0 ≤ n) (hn7 : n ≤ 7) : Calls Try.prog 51 #[.int .i64 n, .agg #[.int .i64 t, .int .i64 b]] w (RetRow owRegs (flagsNew n t b) w) := by
  obtain ⟨i0, hi0, hz0, hz1, hz2⟩ := info_parts (show (Try.prog.info? 136).map (fun i => (i.zero, i.size, i.bytes)) = some (some (.agg #[.int .i64 0, .int .i64 0, .int .i64 0]), 3, 24) by kernel_rfl)
  obtain ⟨wz, hwz⟩ : ∃ wz : World, wz.heap.size = w.heap.size + 1 := ⟨w.alloc (.cells #[] 0), by simp⟩
  have HZ := Aside.mk hwz
  clear hwz
  go_enter Try.func51, Try.ntmps51
  go_wp2
  have L0 := Aside.mk ((Loc.new w #[.int .i64 t, .int .i64 b] 29).alloc (.cells #[] 136))
  go_loopw [5, 8] (fun v5 v8 wr => ∃ (i : Nat) (Av : Option Addr) (nv cv : Nat) (D : List Nat), i ≤ 3 ∧ v8 = .int .i64 i ∧ v5 = .slice Av nv cv ∧ Aside (Loc wr w.heap.size #[.int .i64 t, .int .i64 b] 29) ∧ Aside (owRegs wr D (.slice Av nv cv) ((flagsNew n t b).take i)) ∧ Aside (New wz wr D) ∧ Aside (Below w.heap.size w wr)) (fun _ v8 _ => 3 - (intOf v8).toNat)
  case atStart => exact ⟨0, _, _, _, [w.heap.size + 1], Nat.zero_le _, rfl, rfl, L0, ⟨⟨[], [], own_lit0 _ _ _ _ (by simp), by simp [Value.ownBlock], rfl, rfl⟩⟩, ⟨by simp, by have := HZ.out; simp; omega⟩, ⟨by (repeat (first | (with_reducible exact HB.out) | (with_reducible exact Below.refl _ _) | (with_reducible refine below_set ?_ (by first | omega | (dsimp only; omega) | (simp; done) | (simp; omega)) _) | (with_reducible refine below_alloc ?_ _) | (with_reducible refine below_drewN ?_ _) | (with_reducible refine below_drew ?_)))⟩⟩
  case round =>
    clear L0
    obtain ⟨i, Av, nv, cv, D, hi, rfl, rfl, L0, HO, HN, HB⟩ := hrel
    have l0 := L0.out.cells
    have q0 := L0.out.lt
    have HS : Aside (wz.heap.size ≤ wr.heap.size) := ⟨by have := HZ.out; omega⟩
    by_cases hlt : i < 3
    · have hbit := bits_at n i hn0 hn7 hlt
      have HT := Aside.mk (flagsNew_take n t b i hlt)
      have hlen : ((flagsNew n t b).take i).length = i := by rw [List.length_take, flagsNew_len]; omega
      have HLE := Aside.mk hlen
      generalize bitAt n i = bt at hbit HT
      obtain ⟨xs, hown, FS⟩ := owRow_snoc ow_reg (w0 := wz) (w := wr.drew.alloc (.cells #[.int .i64 bt, .int .i64 t, .int .i64 b] 136)) (x := ⟨bt, t, b⟩) (cs := [.int .i64 bt, .int .i64 t, .int .i64 b]) (Dx := []) (owRow_below ow_reg HO.out (below_alloc (below_drew (Below.refl _ wr)) _)) ⟨rfl, rfl⟩ (by rw [List.append_nil]; exact HN.out.drew.alloc _) (by have := HS.out; simp; omega)
      have HFS := Aside.mk FS
      have HOW := Aside.mk hown
      clear FS hown hlen
      go_wp2
      refine zBegin (S := (fun w' => Loc w' w.heap.size #[.int .i64 t, .int .i64 b] 29)) (z := 10) (by kernel_rfl) (by exact L0.out.drew') (fun hHeld => ?_)
      refine zT 0 11 hHeld ?_
      refine zT 1 12 hHeld ?_
      refine zT 2 13 hHeld ?_
      refine zT 3 14 hHeld ?_
      refine zT 4 15 hHeld ?_
      refine zT 5 16 hHeld ?_
      refine zT 6 17 hHeld ?_
      refine zReady (rs := [7]) (by kernel_rfl) (by simp) ?_
      refine zOne (by decide) rfl (fun K hK => ?_) zNil
      go_simp
      refine hK.out _ _ (by exact hHeld.alloc _) (fun hHeld => ?_)
      clear hK K
      (try simp only [Act.put, List.setIfInBounds_toArray, List.set_cons_zero, List.set_cons_succ])
      refine zReady (rs := [8]) (by kernel_rfl) (by simp) ?_
      refine zOne (by decide) rfl (fun K hK => ?_) zNil
      refine step_append_lies _ (by rfl) (.tmp 11) (.tmp 18) 56 (by rfl) 0 136 i0 (.agg #[.int .i64 0, .int .i64 0, .int .i64 0]) 3 24 Try.underlying56 hi0 hz0 hz1 hz2 (by decide) (by decide) (.slice Av nv cv) ((flagsNew n t b).take i).length xs (by rfl) HOW.out ⟨wr.heap.size, 0, none⟩ 1 1 [.int .i64 bt, .int .i64 t, .int .i64 b] (by rfl) rfl (World.news_of_block (heap_alloc_new wr.drew _)) (by simp [Value.oneCell']) (by decide) (by unfold maxLen; rw [HLE.out]; omega) (by rw [HLE.out]; omega) (Nat.zero_le _) (wr.heap.size + 1) (by simp) ?_; intro g cap w2 hown2 hgrow hat hlt2; obtain ⟨D2, hk1, hk2⟩ := HFS.out _ _ hown2 hgrow (hat.imp (fun h => h.symm) (fun h => by rw [h]; simp [Value.ownBlock])); have n0 : some w.heap.size ≠ (Value.slice Av nv cv).ownBlock := (fun e => by have h1 := HN.out.2 _ (own_in HO.out e.symm); have h2 := HZ.out; omega)
      refine hK.out _ _ (by exact hHeld.grown hgrow n0) (fun hHeld => ?_)
      clear hK K
      (try simp only [Act.put, List.setIfInBounds_toArray, List.set_cons_zero, List.set_cons_succ])
      refine zT 9 5 hHeld ?_
      refine zDone (by kernel_rfl) ?_ _
      have L0' := Aside.mk hHeld
      have HB' := Aside.mk ((below_alloc (below_drew HB.out) _).grown hgrow (by have := HB.out.size; simp; omega) (fun x hx => by have h1 := HN.out.2 x (own_in HO.out hx); have h2 := HZ.out; omega))
      have HK1 := Aside.mk hk1
      have HK2 := Aside.mk hk2
      clear hHeld hown2 hgrow hat hlt2 hk1 hk2 n0
      go_wp2
      go_roundw
      case rel => exact ⟨i + 1, _, _, _, D2, by omega, by go_num, rfl, L0', ⟨by have h := HK1.out; rw [HT.out]; rw [List.length_take] at h; exact h⟩, HK2, HB'⟩
      case measure => simp [intOf]; omega
    · have hz : i = 3 := by omega
      have HO1 : Aside (owRegs wr D (.slice Av nv cv) (flagsNew n t b)) := ⟨by have := HO.out; rw [hz, show (flagsNew n t b).take 3 = flagsNew n t b from rfl] at this; exact this⟩
      subst hz
      clear HO
      go_wp2
      go_ret
      exact ⟨_, D, rfl, HO1.out, HN.out.from (by have := HZ.out; omega), HB.out⟩
set_option maxHeartbeats 2000000 in
set_option maxRecDepth 100000 in
theorem specFlagsNew_calls (w : World) (n t b : Int) (hn0 : 0 ≤ n) (hn7 : n ≤ 7) : Calls Try.prog 190 #[.int .i64 n, .agg #[.int .i64 t, .int .i64 b]] w (RetRow owRegs (flagsNew n t b) w) := by
  obtain ⟨i0, hi0, hz0, hz1, hz2⟩ := info_parts (show (Try.prog.info? 136).map (fun i => (i.zero, i.size, i.bytes)) = some (some (.agg #[.int .i64 0, .int .i64 0, .int .i64 0]), 3, 24) by kernel_rfl)
  obtain ⟨wz, hwz⟩ : ∃ wz : World, wz.heap.size = w.heap.size + 1 := ⟨w.alloc (.cells #[] 0), by simp⟩
  have HZ := Aside.mk hwz
  clear hwz
  go_enter Try.func190, Try.ntmps190
  go_wp2
  have L0 := Aside.mk ((Loc.new w #[.int .i64 t, .int .i64 b] 29).alloc (.cells #[] 136))
  go_loopw [5, 6, 7] (fun v5 v8 _ wr => ∃ (i : Nat) (Av : Option Addr) (nv cv : Nat) (D : List Nat), i ≤ 3 ∧ v8 = .int .i64 i ∧ v5 = .slice Av nv cv ∧ Aside (Loc wr w.heap.size #[.int .i64 t, .int .i64 b] 29) ∧ Aside (owRegs wr D (.slice Av nv cv) ((flagsNew n t b).take i)) ∧ Aside (New wz wr D) ∧ Aside (Below w.heap.size w wr)) (fun _ v8 _ _ => 3 - (intOf v8).toNat)
  case atStart => exact ⟨0, _, _, _, [w.heap.size + 1], Nat.zero_le _, rfl, rfl, L0, ⟨⟨[], [], own_lit0 _ _ _ _ (by simp), by simp [Value.ownBlock], rfl, rfl⟩⟩, ⟨by simp, by have := HZ.out; simp; omega⟩, ⟨by (repeat (first | (with_reducible exact HB.out) | (with_reducible exact Below.refl _ _) | (with_reducible refine below_set ?_ (by first | omega | (dsimp only; omega) | (simp; done) | (simp; omega)) _) | (with_reducible refine below_alloc ?_ _) | (with_reducible refine below_drewN ?_ _) | (with_reducible refine below_drew ?_)))⟩⟩
  case round =>
    clear L0
    obtain ⟨i, Av, nv, cv, D, hi, rfl, rfl, L0, HO, HN, HB⟩ := hrel
    have l0 := L0.out.cells
    have q0 := L0.out.lt
    have HS : Aside (wz.heap.size ≤ wr.heap.size) := ⟨by have := HZ.out; omega⟩
    by_cases hlt : i < 3
    · have hrem := rem_at n i hn0 hn7 hlt
      have hbi := bitAt_in n i
      have HT := Aside.mk (flagsNew_take n t b i hlt)
      have hlen : ((flagsNew n t b).take i).length = i := by rw [List.length_take, flagsNew_len]; omega
      have HLE := Aside.mk hlen
      generalize bitAt n i = bt at hrem HT hbi
      obtain ⟨xs, hown, FS⟩ := owRow_snoc ow_reg (w0 := wz) (w := wr.alloc (.cells #[.int .i64 bt, .int .i64 t, .int .i64 b] 136)) (x := ⟨bt, t, b⟩) (cs := [.int .i64 bt, .int .i64 t, .int .i64 b]) (Dx := []) (owRow_below ow_reg HO.out (below_alloc (Below.refl _ wr) _)) ⟨rfl, rfl⟩ (by rw [List.append_nil]; exact HN.out.alloc _) (by have := HS.out; simp; omega)
      have HFS := Aside.mk FS
      have HOW := Aside.mk hown
      clear FS hown hlen
      have n0 : some w.heap.size ≠ (Value.slice Av nv cv).ownBlock := (fun e => by have h1 := HN.out.2 _ (own_in HO.out e.symm); have h2 := HZ.out; omega)
      have N0 := Aside.mk n0
      clear n0
      have hbt : bt = 0 ∨ bt = 1 := by omega
      rcases hbt with rfl | rfl
      all_goals
        go_wp2_with (at_builtin; refine wpList_append_lies _ (by rfl) (.tmp 19) (.tmp 23) 56 (by rfl) 0 136 i0 (.agg #[.int .i64 0, .int .i64 0, .int .i64 0]) 3 24 Try.underlying56 hi0 hz0 hz1 hz2 (by decide) (by decide) (.slice Av nv cv) ((flagsNew n t b).take i).length xs (by rfl) HOW.out ⟨wr.heap.size, 0, none⟩ 1 1 [_, .int .i64 t, .int .i64 b] (by rfl) rfl (World.news_of_block (heap_alloc_new wr _)) (by simp [Value.oneCell']) (by decide) (by unfold maxLen; rw [HLE.out]; omega) (by rw [HLE.out]; omega) (Nat.zero_le _) (wr.heap.size + 1) (by simp) ?_; intro g cap w2 hown2 hgrow hat hlt2; obtain ⟨D2, hk1, hk2⟩ := HFS.out _ _ hown2 hgrow (hat.imp (fun h => h.symm) (fun h => by rw [h]; simp [Value.ownBlock])); have L0' := Aside.mk ((L0.out.alloc _).grown hgrow N0.out); have HB' := Aside.mk ((below_alloc HB.out _).grown hgrow (by have := HB.out.size; simp; omega) (fun x hx => by have h1 := HN.out.2 x (own_in HO.out hx); have h2 := HZ.out; omega)); have HK1 := Aside.mk hk1; have HK2 := Aside.mk hk2; clear hown2 hgrow hat hlt2 hk1 hk2)
        go_roundw
        case rel => exact ⟨i + 1, _, _, _, D2, by omega, by go_num, rfl, L0', ⟨by have h := HK1.out; rw [HT.out]; rw [List.length_take] at h; exact h⟩, HK2, HB'⟩
        case measure => simp [intOf]; omega
    · have hz : i = 3 := by omega
      have HO1 : Aside (owRegs wr D (.slice Av nv cv) (flagsNew n t b)) := ⟨by have := HO.out; rw [hz, show (flagsNew n t b).take 3 = flagsNew n t b from rfl] at this; exact this⟩
      subst hz
      clear HO
      go_wp2
      go_ret
      exact ⟨_, D, rfl, HO1.out, HN.out.from (by have := HZ.out; omega), HB.out⟩
end Go.Proofs.Ytjfjpabfkembcaa.H
