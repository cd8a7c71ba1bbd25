/- Sums: SumMore, SumOf, four, fourAt, Sealed, Unsealed: the walks. -/
import Derived.Test.YtjfjpabfkembcaaHTurnPure
import Derived.Test.YtjfjpabfkembcaaHVar
namespace Go.Proofs.Ytjfjpabfkembcaa.H
open Go.RowKit
set_option linter.unusedVariables false
set_option linter.unusedSimpArgs false
theorem wraps32u (n : Int) (h0 : 0 ≤ n) (h1 : n < 2 ^ 32) : IntKind.u32.wrap n = n := by rw [IntKind.wrap_u32]; omega
theorem and1u {x : Int} (h0 : 0 ≤ x) (h1 : x < 4294967296) : bits .and .u32 x 1 = x % 2 := bits_mask .u32 32 (by decide) wraps32u 1 (by decide) x h0 (by omega)
theorem sumIter_step (n : Nat) (x : Int) : sumIter (n + 1) x = sumIter n (sumStep x) := rfl
theorem mod32 (n : Nat) (h : n ≤ 255) : (n : Int) % 4294967296 = (n : Int) := by omega
set_option maxHeartbeats 2000000 in
set_option maxRecDepth 100000 in
theorem sumMore_calls (w : World) (s : Int) (t : ByteArray) (hs : 0 ≤ s ∧ s < 4294967296) (ht : t.size ≤ 140737488351232) : Calls Try.prog 55 #[.int .u32 s, .string t] w fun e w' => e = .returned (.int .u32 (sumL s (nums t))) ∧ Below w.heap.size w w' := by
  have HS0 := Aside.mk hs
  clear hs
  go_enter Try.func55, Try.ntmps55
  go_wp2
  go_loopw [0, 5] (fun v0 v5 wr => ∃ (i : Nat) (x : Int), i ≤ t.size ∧ v0 = .int .u32 x ∧ v5 = .int .i64 i ∧ Aside (0 ≤ x ∧ x < 4294967296) ∧ Aside (sumL x ((nums t).drop i) = sumL s (nums t)) ∧ Aside (Below w.heap.size w wr)) (fun _ v5 _ => t.size - (intOf v5).toNat)
  case atStart => exact ⟨0, s, Nat.zero_le _, rfl, rfl, HS0, ⟨rfl⟩, ⟨by (repeat (first | (with_reducible exact HB.out) | (with_reducible exact Below.refl _ _) | (with_reducible refine below_set ?_ (by first | omega | (dsimp only; omega) | (simp; done) | (simp; omega)) _) | (with_reducible refine below_alloc ?_ _) | (with_reducible refine below_drewN ?_ _) | (with_reducible refine below_drew ?_)))⟩⟩
  case round =>
    clear HS0
    obtain ⟨i, x, hi, rfl, rfl, HX, HV, HB⟩ := hrel
    rcases Nat.lt_or_ge i t.size with hlt | hge
    · have hc8 : t[i].toNat ≤ 255 := by have := t[i].toNat_lt; omega
      have hm := mod32 t[i].toNat hc8
      have HR : Aside (0 ≤ bits .xor .u32 x (t[i].toNat : Int) ∧ bits .xor .u32 x (t[i].toNat : Int) < 4294967296) := ⟨xor_range _ _⟩
      have HW : Aside (sumL (sumIter 8 (bits .xor .u32 x (t[i].toNat : Int))) ((nums t).drop (i + 1)) = sumL s (nums t)) := ⟨by rw [← HV.out, nums_drop t i hlt]; rfl⟩
      clear HV HX
      go_wp2
      try rw [hm]
      obtain ⟨y, hy⟩ : ∃ y, y = bits .xor .u32 x (t[i].toNat : Int) := ⟨_, rfl⟩
      rw [← hy] at HR HW
      try rw [← hy]
      have HY := Aside.mk hy
      clear hy
      go_loopw [0, 19] (fun v0 v19 wr => ∃ (j d : Nat) (x : Int), d + j = 8 ∧ v0 = .int .u32 x ∧ v19 = .int .i64 j ∧ Aside (0 ≤ x ∧ x < 4294967296) ∧ Aside (sumL (sumIter d x) ((nums t).drop (i + 1)) = sumL s (nums t)) ∧ Aside (Below w.heap.size w wr)) (fun _ v19 _ => 8 - (intOf v19).toNat)
      case atStart => exact ⟨0, 8, y, rfl, by first | rfl | rw [HY.out], rfl, HR, HW, HB⟩
      case round =>
        clear HR HW HB HY
        obtain ⟨j, d, x, hd, rfl, rfl, HX, HV, HB⟩ := hrel
        match d, hd, HV with
        | 0, hd, HV =>
          have hj : ¬ ((j : Int) < 8) := by omega
          go_wp2
          go_roundw
          case rel => exact ⟨i + 1, x, by omega, rfl, by go_num, HX, HV, HB⟩
          case measure => simp [intOf]; omega
        | d + 1, hd, HV =>
          have hj : (j : Int) < 8 := by omega
          have h1 := and1u HX.out.1 HX.out.2
          have HN : Aside (0 ≤ sumStep x ∧ sumStep x < 4294967296) := ⟨sumStep_range HX.out.1 HX.out.2⟩
          have HT : Aside (sumL (sumIter d (sumStep x)) ((nums t).drop (i + 1)) = sumL s (nums t)) := HV
          by_cases ho : x % 2 = 1
          · have e : sumStep x = bits .xor .u32 (x / 2) 3558460437 := if_pos ho
            rw [e] at HN HT
            clear e HX HV
            go_wp2
            go_roundw
            case rel => exact ⟨j + 1, d, _, by omega, rfl, by go_num, HN, HT, HB⟩
            case measure => simp [intOf]; omega
          · have e : sumStep x = x / 2 := if_neg ho
            rw [e] at HN HT
            clear e HX HV
            go_wp2
            go_roundw
            case rel => exact ⟨j + 1, d, _, by omega, rfl, by go_num, HN, HT, HB⟩
            case measure => simp [intOf]; omega
    · have hge' : ¬ ((i : Int) < (t.size : Int)) := by omega
      have hx : x = sumL s (nums t) := by have h := HV.out; rw [nums_end t i hge] at h; exact h
      clear HV
      subst hx
      go_wp2
      go_ret
      exact ⟨rfl, HB.out⟩
set_option maxHeartbeats 2000000 in
set_option maxRecDepth 100000 in
theorem sumOf_calls (w : World) (t : ByteArray) (ht : t.size ≤ 140737488351232) : Calls Try.prog 56 #[.string t] w fun e w' => e = .returned (.int .u32 (sum0 (nums t))) ∧ Below w.heap.size w w' := by
  go_enter Try.func56, Try.ntmps56
  go_wp2_with (go_at_call 55; refine (sumMore_calls _ _ _ ⟨by decide, by decide⟩ ht).mono ?_; rintro e w1 ⟨rfl, hb⟩; have HB := Aside.mk hb; clear hb)
  go_ret
  exact ⟨rfl, HB.out⟩
end Go.Proofs.Ytjfjpabfkembcaa.H
