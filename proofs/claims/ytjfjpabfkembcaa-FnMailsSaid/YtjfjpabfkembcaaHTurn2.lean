/- Four bytes; sealed texts: the walks. -/
import Derived.Test.YtjfjpabfkembcaaHTurn1
namespace Go.Proofs.Ytjfjpabfkembcaa.H
open Go.RowKit
set_option linter.unusedVariables false
set_option linter.unusedSimpArgs false
theorem rdBytes_lit (w : World) (g : Nat) (hg : g = w.heap.size) (l : List Int) (hl : l.length ≤ 1000) (e : TypeId) : rdBytes (w.alloc (.cells (l.map (fun x => Value.int .u8 x)).toArray e)) (.slice (some ⟨g, 0, none⟩) l.length l.length) l := by
  subst hg
  refine ⟨_, _, rfl, Nat.le_refl _, by omega, (fun h => by cases h), fun i x hx => ⟨_, _, rfl, rfl, fun j u hu => ?_⟩⟩
  have hj : j = 0 := by
    have := (List.getElem?_eq_some_iff.1 hu).1
    simp at this
    exact this
  subst hj
  have hu' : Value.int .u8 x = u := by simpa using hu
  rw [add_zero_, cell_of_row _ _ _ _ e (0, 0) (heap_alloc_new w _), ← hu']
  simp [hx]
set_option maxHeartbeats 2000000 in
set_option maxRecDepth 100000 in
theorem four_calls (w : World) (n : Int) (h : 0 ≤ n ∧ n < 4294967296) : Calls Try.prog 136 #[.int .i64 n] w fun e w' => e = .returned (.string (fourT n)) ∧ Below w.heap.size w w' := by
  have hcv := conv_bytes (cap := 4) (rdBytes_lit w w.heap.size rfl [n / 16777216, n / 65536 % 256, n / 256 % 256, n % 256] (by simp) 5) (n := 4) rfl
  simp only [List.map_cons, List.map_nil] at hcv
  have HE : Aside (fourT n = strOfNums [n / 16777216, n / 65536 % 256, n / 256 % 256, n % 256]) := ⟨by unfold fourT fourL; rw [show n / 16777216 % 256 = n / 16777216 by omega]⟩
  go_enter Try.func136, Try.ntmps136
  go_wp2
  go_ret
  exact ⟨by rw [HE.out]; rfl, by (repeat (first | (with_reducible exact HB.out) | (with_reducible exact Below.refl _ _) | (with_reducible refine below_set ?_ (by first | omega | (dsimp only; omega) | (simp; done) | (simp; omega)) _) | (with_reducible refine below_alloc ?_ _) | (with_reducible refine below_drewN ?_ _) | (with_reducible refine below_drew ?_)))⟩
theorem or_join (i : Nat) {x y : Int} (hx0 : 0 ≤ x) (hx1 : x < 2 ^ 63) (hx : x % 2 ^ i = 0) (hy0 : 0 ≤ y) (hy : y < 2 ^ i ∧ i ≤ 62) : bits .or .i64 x y = x + y := by
  have hp : (2 : Int) ^ i ≤ 2 ^ 63 := by
    have := Nat.pow_le_pow_right (show 2 > 0 by decide) (show i ≤ 63 by omega)
    exact_mod_cast this
  exact bits_join .i64 63 (by decide) wraps64 i x y hx0 hx hx1 hy0 hy.1 (by omega)
theorem four_or (c0 c1 c2 c3 : Nat) (h0 : c0 ≤ 255) (h1 : c1 ≤ 255) (h2 : c2 ≤ 255) (h3 : c3 ≤ 255) :
    bits .or .i64 (bits .or .i64 (bits .or .i64 ((c0 : Int) * 16777216) ((c1 : Int) * 65536)) ((c2 : Int) * 256)) (c3 : Int) = (c0 : Int) * 16777216 + (c1 : Int) * 65536 + (c2 : Int) * 256 + (c3 : Int) := by
  have e1 := or_join 24 (x := (c0 : Int) * 16777216) (y := (c1 : Int) * 65536) (by omega) (by omega) (by omega) (by omega) (by omega)
  have e2 := or_join 16 (x := (c0 : Int) * 16777216 + (c1 : Int) * 65536) (y := (c2 : Int) * 256) (by omega) (by omega) (by omega) (by omega) (by omega)
  have e3 := or_join 8 (x := (c0 : Int) * 16777216 + (c1 : Int) * 65536 + (c2 : Int) * 256) (y := (c3 : Int)) (by omega) (by omega) (by omega) (by omega) (by omega)
  rw [e1, e2, e3]
set_option maxHeartbeats 2000000 in
set_option maxRecDepth 100000 in
theorem fourAt_calls (w : World) (t : ByteArray) (n : Nat) (hsz : t.size = n + 4) (hn : n ≤ 20000) : Calls Try.prog 137 #[.string t, .int .i64 n] w fun e w' => e = .returned (.int .i64 (fourOf ((nums t).drop n))) ∧ Below w.heap.size w w' := by
  obtain ⟨n1, hn1⟩ : ∃ m, m = n + 1 := ⟨_, rfl⟩
  obtain ⟨n2, hn2⟩ : ∃ m, m = n + 2 := ⟨_, rfl⟩
  obtain ⟨n3, hn3⟩ : ∃ m, m = n + 3 := ⟨_, rfl⟩
  have l0 : n < t.size := by omega
  have l1 : n1 < t.size := by omega
  have l2 : n2 < t.size := by omega
  have l3 : n3 < t.size := by omega
  have z1 : (n : Int) + 1 = (n1 : Int) := by omega
  have z2 : (n : Int) + 2 = (n2 : Int) := by omega
  have z3 : (n : Int) + 3 = (n3 : Int) := by omega
  have c0 : t[n].toNat ≤ 255 := by have := t[n].toNat_lt; omega
  have c1 : t[n1].toNat ≤ 255 := by have := t[n1].toNat_lt; omega
  have c2 : t[n2].toNat ≤ 255 := by have := t[n2].toNat_lt; omega
  have c3 : t[n3].toNat ≤ 255 := by have := t[n3].toNat_lt; omega
  have HE : Aside (fourOf ((nums t).drop n) = (t[n].toNat : Int) * 16777216 + (t[n1].toNat : Int) * 65536 + (t[n2].toNat : Int) * 256 + (t[n3].toNat : Int)) := ⟨by
    subst hn1 hn2 hn3
    rw [nums_drop t n l0, nums_drop t (n + 1) l1, nums_drop t (n + 1 + 1) l2, nums_drop t (n + 1 + 1 + 1) l3]
    rfl⟩
  have w1 : IntKind.i64.wrap (n1 : Int) = (n1 : Int) := wraps64 _ (by omega) (by omega)
  have w2 : IntKind.i64.wrap (n2 : Int) = (n2 : Int) := wraps64 _ (by omega) (by omega)
  have w3 : IntKind.i64.wrap (n3 : Int) = (n3 : Int) := wraps64 _ (by omega) (by omega)
  have s0 : IntKind.i64.wrap ((t[n].toNat : Int) * 16777216) = (t[n].toNat : Int) * 16777216 := wraps64 _ (by omega) (by omega)
  have s1 : IntKind.i64.wrap ((t[n1].toNat : Int) * 65536) = (t[n1].toNat : Int) * 65536 := wraps64 _ (by omega) (by omega)
  have s2 : IntKind.i64.wrap ((t[n2].toNat : Int) * 256) = (t[n2].toNat : Int) * 256 := wraps64 _ (by omega) (by omega)
  have e0 : IntKind.i64.wrap (t[n].toNat : Int) = (t[n].toNat : Int) := wraps64 _ (by omega) (by omega)
  have e1 : IntKind.i64.wrap (t[n1].toNat : Int) = (t[n1].toNat : Int) := wraps64 _ (by omega) (by omega)
  have e2 : IntKind.i64.wrap (t[n2].toNat : Int) = (t[n2].toNat : Int) := wraps64 _ (by omega) (by omega)
  have e3 : IntKind.i64.wrap (t[n3].toNat : Int) = (t[n3].toNat : Int) := wraps64 _ (by omega) (by omega)
  have hor := four_or _ _ _ _ c0 c1 c2 c3
  have HS := Aside.mk hsz
  clear hn1 hn2 hn3 hsz
  go_enter Try.func137, Try.ntmps137
  go_wp2
  refine zBegin (S := (fun w' => Aside (Below w.heap.size w w'))) (z := 26) (by kernel_rfl) (by exact ⟨below_drew (Below.refl _ _)⟩) (fun hHeld => ?_)
  refine zT 0 5 hHeld ?_
  refine zT 1 6 hHeld ?_
  refine zT 2 7 hHeld ?_
  refine zT 3 8 hHeld ?_
  refine zT 4 9 hHeld ?_
  refine zT 5 10 hHeld ?_
  refine zT 6 11 hHeld ?_
  refine zT 7 12 hHeld ?_
  refine zT 8 13 hHeld ?_
  refine zT 9 14 hHeld ?_
  refine zT 10 15 hHeld ?_
  refine zT 11 16 hHeld ?_
  refine zT 12 17 hHeld ?_
  refine zT 13 18 hHeld ?_
  refine zT 14 19 hHeld ?_
  refine zT 15 20 hHeld ?_
  refine zT 16 21 hHeld ?_
  refine zT 17 22 hHeld ?_
  refine zT 18 23 hHeld ?_
  refine zT 19 24 hHeld ?_
  refine zT 20 25 hHeld ?_
  refine zT 21 26 hHeld ?_
  refine zT 22 27 hHeld ?_
  refine zT 23 28 hHeld ?_
  refine zT 24 29 hHeld ?_
  refine zT 25 4 hHeld ?_
  refine zDone (by kernel_rfl) ?_ _
  go_wp2
  go_ret
  exact ⟨by rw [HE.out]; rfl, hHeld.out⟩
set_option maxHeartbeats 2000000 in
set_option maxRecDepth 100000 in
theorem sealed_calls (w : World) (t : ByteArray) (ht : t.size ≤ 20000) : Calls Try.prog 53 #[.string t] w fun e w' => e = .returned (.tuple #[.string (sealedT t), .bool true]) ∧ Below w.heap.size w w' := by
  have hti : ¬ ((20000 : Int) < (t.size : Int)) := by omega
  have hr := sum0_range (nums t)
  have HR := Aside.mk hr
  obtain ⟨s, hs⟩ : ∃ s, s = sum0 (nums t) := ⟨_, rfl⟩
  rw [← hs] at hr
  have HS := Aside.mk hs
  clear hs HR
  have h4 := fourT_size s
  have h63 : ¬ (9223372036854775807 < t.size + (fourT s).size) := by omega
  clear h4
  go_enter Try.func53, Try.ntmps53
  go_wp2_with (fail)
  refine (sumOf_calls _ t (by omega)).mono ?_
  rintro e w1 ⟨rfl, hb⟩
  rw [← HS.out]
  have HB := Aside.mk hb
  clear hb
  go_wp2_with (fail)
  refine (four_calls _ s hr).mono ?_
  rintro e w2 ⟨rfl, hb⟩
  replace HB := Aside.mk (below_step HB.out hb)
  clear hb
  go_wp2
  refine bodyPost_ret (v := .tuple #[.string (t ++ fourT s), .bool true]) (by simp [results, go_sem]) rfl ⟨by rw [HS.out]; rfl, HB.out⟩
set_option maxHeartbeats 2000000 in
set_option maxRecDepth 100000 in
theorem unsealed_calls (w : World) (t : ByteArray) (n : Nat) (hsz : t.size = n + 4) (hn : n ≤ 20000) : Calls Try.prog 54 #[.string t] w fun e w' => e = .returned (.tuple #[.string (unsealedT t n).1, .bool (unsealedT t n).2]) ∧ Below w.heap.size w w' := by
  have HSz := Aside.mk hsz
  have hl : (t.size : Int) - 4 = (n : Int) := by omega
  have hin : isIn (n : Int) 0 20000 = true := isIn_iff.2 ⟨by omega, by omega⟩
  have HI := Aside.mk hin
  have hs1 : (n : Int) ≤ (t.size : Int) := by omega
  have hs0 : n ≤ t.size := by omega
  have hr := sum0_range ((nums t).take n)
  obtain ⟨s, hs⟩ : ∃ s, s = sum0 ((nums t).take n) := ⟨_, rfl⟩
  rw [← hs] at hr
  have HS := Aside.mk hs
  clear hs hin hsz
  obtain ⟨f, hf⟩ : ∃ f, f = fourOf ((nums t).drop n) := ⟨_, rfl⟩
  have HF := Aside.mk hf
  clear hf
  go_enter Try.func54, Try.ntmps54
  go_wp2_with (fail)
  refine (within_calls _ _ _ _).mono ?_
  rintro e w1 ⟨rfl, hb⟩
  rw [HI.out]
  have HB := Aside.mk hb
  clear hb
  go_wp2_with (fail)
  refine (sumOf_calls _ (t.extract 0 n) (by rw [ByteArray.size_extract]; omega)).mono ?_
  rintro e w2 ⟨rfl, hb⟩
  rw [nums_take, ← HS.out]
  replace HB := Aside.mk (below_step HB.out hb)
  clear hb
  go_wp2_with (fail)
  refine (fourAt_calls _ t n HSz.out hn).mono ?_
  rintro e w3 ⟨rfl, hb⟩
  rw [← HF.out]
  replace HB := Aside.mk (below_step HB.out hb)
  clear hb
  by_cases he : s = f
  · have HE : Aside (unsealedT t n = (t.extract 0 n, true)) := ⟨by unfold unsealedT; rw [← HS.out, ← HF.out, if_pos he]⟩
    subst he
    go_wp2
    refine bodyPost_ret (v := .tuple #[.string (t.extract 0 n), .bool true]) (by simp [results, go_sem]) rfl ⟨by rw [HE.out], HB.out⟩
  · have HE : Aside (unsealedT t n = (⟨#[]⟩, false)) := ⟨by unfold unsealedT; rw [← HS.out, ← HF.out, if_neg he]⟩
    go_wp2
    refine bodyPost_ret (v := .tuple #[.string ⟨#[]⟩, .bool false]) (by simp [results, go_sem]) rfl ⟨by rw [HE.out], HB.out⟩
end Go.Proofs.Ytjfjpabfkembcaa.H
