/- The walk of the statement on turned bytes. -/
import Derived.Test.YtjfjpabfkembcaaHTurn3
import Derived.Test.YtjfjpabfkembcaaHFlagsOf
import Derived.Test.YtjfjpabfkembcaaHReadVar
namespace Go.Proofs.Ytjfjpabfkembcaa.H
open Go.RowKit
set_option linter.unusedVariables false
set_option linter.unusedSimpArgs false
theorem cell_next {w : World} {a : Addr} {v u : Value} (h0 : w.cell? a = some v) (h1 : w.cell? (a.add 1) = some u) : w.cell? ⟨a.block, a.off + 1, none⟩ = some u := by
  obtain ⟨b, o, sp⟩ := a
  have hs := World.cell?_spot h0
  subst hs
  simpa [Addr.add] using h1
theorem size_x (s : ByteArray) (h : s.size < 40) : (s ++ (⟨#[120]⟩ : ByteArray)).size ≤ 140737488351232 := by
  have e : (s ++ (⟨#[120]⟩ : ByteArray)).size = s.size + 1 := ByteArray.size_append
  omega
theorem xor8_ne {a m : Int} (ha : 0 ≤ a ∧ a ≤ 255) (hm : 1 ≤ m ∧ m ≤ 255) : (0 ≤ bits .xor .u8 a m ∧ bits .xor .u8 a m ≤ 255) ∧ bits .xor .u8 a m ≠ a := by
  obtain ⟨x, rfl⟩ := Int.eq_ofNat_of_zero_le ha.1
  obtain ⟨y, rfl⟩ := Int.eq_ofNat_of_zero_le (by omega : (0 : Int) ≤ m)
  have e : bits .xor .u8 (x : Int) (y : Int) = IntKind.u8.wrap (((BitVec.ofInt 8 (x : Int) ^^^ BitVec.ofInt 8 (y : Int)).toNat : Nat) : Int) := rfl
  rw [e, BitVec.toNat_xor, BitVec.toNat_ofInt, BitVec.toNat_ofInt, IntKind.wrap_u8]
  have h : x ^^^ y < 2 ^ 8 := Nat.xor_lt_two_pow (by omega) (by omega)
  rw [show ((x : Int) % ((2 ^ 8 : Nat) : Int)).toNat = x by omega, show ((y : Int) % ((2 ^ 8 : Nat) : Int)).toNat = y by omega]
  refine ⟨by omega, fun h1 => ?_⟩
  have h2 : x ^^^ y = x := by omega
  have h3 := congrArg (x ^^^ ·) h2
  simp only [← Nat.xor_assoc, Nat.xor_self, Nat.zero_xor] at h3
  omega
set_option maxHeartbeats 20000000 in
set_option maxRecDepth 100000 in
theorem lawFnTurned (w : World) (v0 : Value) (code : List Int) (h : rdBytes w v0 code) :
    Calls Try.prog 8 #[v0] w fun e w' => e = .returned (.bool true) ∧ Below w.heap.size w w' := by
  obtain ⟨A, c, rfl, _, hm⟩ := rd_len h
  have HR := Aside.mk h
  clear h
  by_cases hbig : (1048576 : Int) < (code.length : Int)
  · have HBG := Aside.mk (decide_eq_true hbig)
    go_enter Try.func8, Try.ntmps8
    go_wp2_with (go_at_call 32; refine (big_calls _ _ code HR.out).mono ?_; rintro e w1 ⟨rfl, hb⟩; rw [HBG.out]; have HB := Aside.mk hb; clear hb)
    go_ret
    exact ⟨rfl, HB.out⟩
  have HBG := Aside.mk (decide_eq_false hbig)
  clear hbig
  go_enter Try.func8, Try.ntmps8
  go_wp2_with (fail)
  refine (big_calls _ _ code HR.out).mono ?_
  rintro e w1 ⟨rfl, hb⟩
  rw [HBG.out]
  have HB := Aside.mk hb
  clear hb
  go_wp2_with (fail)
  refine (drawSumOf_calls _ A c code (rdBytes_mov HB.out HR.out)).mono ?_
  rintro e w2 ⟨s, rfl, hs, hb⟩
  replace HB := Aside.mk (below_step HB.out hb)
  clear hb
  go_wp2_with (fail)
  refine (drawPlaces_calls _ A c code (rdBytes_mov HB.out HR.out)).mono ?_
  rintro e w3 ⟨vp, lp, rfl, hp, hpl, hpx, hb⟩
  obtain ⟨Ap, cp, rfl, hpc, _⟩ := rd_len hp
  obtain ⟨adp, hA, x0⟩ := rdInts_at hp 0 (by omega)
  subst hA
  obtain ⟨adq, hA, x1⟩ := rdInts_at hp 1 (by omega)
  injection hA with hA
  subst hA
  have hp0 := hpx lp[0] (List.getElem_mem (by omega))
  have hp1 := hpx lp[1] (List.getElem_mem (by omega))
  rw [add0] at x0
  generalize lp[0] = p0 at x0 hp0
  generalize lp[1] = p1 at x1 hp1
  have q12 : (1 : Int) < (lp.length : Int) := by omega
  have X0 := Aside.mk x0
  have X1 := Aside.mk x1
  replace HB := Aside.mk (below_step HB.out hb)
  clear hb hp hpx hpl x0 x1
  go_wp2_with (fail)
  refine (sealed_calls _ s (by omega)).mono ?_
  rintro e w4 ⟨rfl, hb⟩
  obtain ⟨t, ht⟩ : ∃ t, t = sealedT s := ⟨_, rfl⟩
  rw [← ht]
  have htz : t.size = s.size + 4 := by rw [ht, sealedT_size]
  have HT := Aside.mk ht
  clear ht
  replace X0 := Aside.mk (cell_b hb X0.out)
  replace X1 := Aside.mk (cell_b hb X1.out)
  replace HB := Aside.mk (below_step HB.out hb)
  clear hb
  go_wp2_with (fail)
  refine (unsealed_calls _ t s.size htz (by omega)).mono ?_
  rintro e w5 ⟨rfl, hb⟩
  have HU : Aside (unsealedT t s.size = (s, true)) := ⟨by rw [HT.out]; exact unsealed_sealed s⟩
  rw [HU.out]
  dsimp only
  clear HU
  obtain ⟨cap, w6, hcv, hcap, hrow, hb6⟩ := to_bytes w5 t
  have x0 := cell_b hb6 (cell_b hb X0.out)
  have x1 := cell_b hb6 (cell_b hb X1.out)
  have x2 := cell_next x0 x1
  clear x1
  have HB5 := below_step HB.out hb
  have HG : Aside (w.heap.size ≤ w5.heap.size) := ⟨HB5.size⟩
  replace HB := Aside.mk (below_step HB5 hb6)
  clear HB5
  obtain ⟨g, hg⟩ : ∃ g, g = w5.heap.size := ⟨_, rfl⟩
  rw [← hg] at hcv hrow HG
  have htI : (t.size : Int) = (s.size : Int) + 4 := by omega
  have hss : (s.toList != s.toList) = false := by simp
  have hnz : ¬ ((t.size : Int) = 0) := by omega
  clear hb hb6 hg X0 X1
  go_wp2
  obtain ⟨i, hi⟩ : ∃ i : Nat, p0 % ((s.size : Int) + 4) = i := ⟨(p0 % ((s.size : Int) + 4)).toNat, by have := Int.emod_nonneg p0 (b := (s.size : Int) + 4) (by omega); omega⟩
  have hi4 : i < s.size + 4 := by have := Int.emod_lt_of_pos p0 (b := (s.size : Int) + 4) (by omega); omega
  rw [hi]
  have hil : i < (nums t).length := by rw [nums_len, htz]; exact hi4
  obtain ⟨y0, y1⟩ := hrow.2 i hil
  obtain ⟨cv, hcv2⟩ : ∃ cv, (nums t)[i] = cv := ⟨_, rfl⟩
  have hcr := nums_range (List.getElem_mem hil)
  rw [hcv2] at y0 hcr
  have HCV : Aside ((nums t)[i] = cv) := ⟨hcv2⟩
  obtain ⟨m, hm1⟩ : ∃ m, p1 % 255 = m := ⟨_, rfl⟩
  have hm2 : 0 ≤ m ∧ m ≤ 254 := by omega
  have hiI : (i : Int) < (s.size : Int) + 4 := by omega
  obtain ⟨nv, hnv⟩ : ∃ nv, bits .xor .u8 cv (1 + m) = nv := ⟨_, rfl⟩
  obtain ⟨hnr, hne⟩ := xor8_ne hcr (m := 1 + m) (by omega)
  rw [hnv] at hnr hne
  have q3 : IntKind.i64.wrap (1 + m) = 1 + m := wraps64 _ (by omega) (by omega)
  have q4 : IntKind.u8.wrap (1 + m) = 1 + m := wraps8 _ (by omega) (by omega)
  have q5 : p1.tmod 255 = m := by rw [Int.tmod_eq_emod_of_nonneg hp1.1, hm1]
  have HH := Aside.mk hrow
  have HNE := Aside.mk hne
  have HNR := Aside.mk hnr
  clear hi hcv2 hne hnr hrow hcv
  refine zBegin (S := (fun w' => w'.cell? ⟨g, i, none⟩ = some (.int .u8 cv) ∧ w'.frozen? ⟨g, i, none⟩ = false ∧ w'.cell? ⟨adp.block, adp.off + 1, none⟩ = some (.int .i64 p1) ∧ Aside (HasRow w' g (nums t)) ∧ Aside (Below w.heap.size w w'))) (z := 14) (by kernel_rfl) (by exact ⟨y0, y1, x2, ⟨HH.out.mov (below_drew (Below.refl _ _))⟩, ⟨below_drew HB.out⟩⟩) (fun hHeld => ?_)
  refine zT 0 56 hHeld ?_
  refine zT 1 57 hHeld ?_
  refine zT 2 58 hHeld ?_
  refine zT 3 59 hHeld ?_
  refine zT 4 60 hHeld ?_
  refine zT 5 61 hHeld ?_
  refine zT 6 62 hHeld ?_
  refine zT 7 63 hHeld ?_
  refine zT 8 64 hHeld ?_
  refine zT 9 65 hHeld ?_
  refine zT 10 66 hHeld ?_
  refine zT 11 67 hHeld ?_
  refine zT 12 68 hHeld ?_
  refine zT 13 69 hHeld ?_
  refine zReady (rs := [14]) (by kernel_rfl) (by simp) ?_
  refine zLast rfl (fun K hK => ?_) zNil
  go_simp
  refine hK.out _ _ ?_
  clear hK K
  (try simp only [Act.put, List.setIfInBounds_toArray, List.set_cons_zero, List.set_cons_succ])
  refine zDone (by kernel_rfl) ?_ _
  have HS2 := (HH.out.set (i := i) hil nv).mov (below_drew (Below.refl _ _))
  have HB2 := Aside.mk (below_drew (below_set HB.out (p := ⟨g, i, none⟩) HG.out (.int .u8 nv)))
  have hlen : ((nums t).set i nv).length = s.size + 4 := by rw [List.length_set, nums_len, htz]
  have hrg : ∀ b ∈ (nums t).set i nv, 0 ≤ b ∧ b ≤ 255 := fun b hb => by
    rcases List.mem_or_eq_of_mem_set hb with hb | rfl
    · exact nums_range hb
    · exact HNR.out
  have hcv := conv_bytes (HS2.rd (cap := cap) (by rw [hlen]; omega) (by rw [hlen]; omega)) rfl
  rw [hlen] at hcv
  have hun := nums_str hrg
  obtain ⟨u, hu⟩ : ∃ u, u = strOfNums ((nums t).set i nv) := ⟨_, rfl⟩
  rw [← hu] at hcv hun
  have huz : u.size = s.size + 4 := by rw [← nums_len, hun, hlen]
  have HU : Aside (unsealedT u s.size = (⟨#[]⟩, false)) := ⟨by
    refine unsealed_turned s u i nv hi4 HNR.out ?_ ?_
    · have h := HNE.out
      rw [← HCV.out] at h
      simpa only [HT.out] using h
    · rw [hun, HT.out]⟩
  clear hu hun hlen hrg HS2 y0 y1 x2 x0 HCV HH
  obtain ⟨wx, hwx⟩ : ∃ wx, wx = (w6.setCell ⟨g, i, none⟩ (.int .u8 nv)).drew := ⟨_, rfl⟩
  rw [← hwx] at hcv HB2 ⊢
  clear hwx
  go_wp2_with (fail)
  refine (unsealed_calls _ u s.size huz (by omega)).mono ?_
  rintro e w8 ⟨rfl, hb⟩
  rw [HU.out]
  dsimp only
  replace HB2 := Aside.mk (below_step HB2.out hb)
  clear hb HU hcv
  go_wp2_with (fail)
  refine (sumOf_calls _ s (by omega)).mono ?_
  rintro e w9 ⟨rfl, hb⟩
  replace HB2 := Aside.mk (below_step HB2.out hb)
  clear hb
  go_wp2_with (fail)
  refine (sumMore_calls _ _ ⟨#[120]⟩ (sum0_range _) (by decide)).mono ?_
  rintro e w10 ⟨rfl, hb⟩
  replace HB2 := Aside.mk (below_step HB2.out hb)
  clear hb
  rw [sum0_more, ← nums_app]
  have h63 : ¬ (9223372036854775807 < s.size + (⟨#[120]⟩ : ByteArray).size) := by
    have : (⟨#[120]⟩ : ByteArray).size = 1 := rfl
    omega
  have h63' : ¬ (9223372036854775807 < s.size + 1) := by omega
  go_wp2_with (fail)
  refine (sumOf_calls _ _ (size_x s hs)).mono ?_
  rintro e w11 ⟨rfl, hb⟩
  replace HB2 := Aside.mk (below_step HB2.out hb)
  clear hb
  go_wp2
  go_ret
  exact ⟨rfl, HB2.out⟩
end Go.Proofs.Ytjfjpabfkembcaa.H
