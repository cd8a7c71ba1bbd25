/- Numbers in bytes, read: ReadVar of both: the walks. -/
import Derived.Test.YtjfjpabfkembcaaHVar
namespace Go.Proofs.Ytjfjpabfkembcaa.H
open Go.RowKit
set_option linter.unusedVariables false
set_option linter.unusedSimpArgs false
/-- What is read from place a on: d bytes may still be looked at, i were. -/
def readV (t : ByteArray) (a : Nat) : Nat → Nat → Nat → Int × Int × Bool
  | 0, _, _ => (0, 0, false)
  | d + 1, i, n =>
    if h : a + i < t.size then
      if t[a + i].toNat < 128 then
        if n + t[a + i].toNat % 128 * 128 ^ i > 1000000000 then (0, 0, false)
        else if ((varT (n + t[a + i].toNat % 128 * 128 ^ i)).toList == (t.extract a (a + i + 1)).toList) = true then (((n + t[a + i].toNat % 128 * 128 ^ i : Nat) : Int), ((a + i + 1 : Nat) : Int), true)
        else (0, 0, false)
      else readV t a d (i + 1) (n + t[a + i].toNat % 128 * 128 ^ i)
    else (0, 0, false)
def readVar (t : ByteArray) (p : Int) : Int × Int × Bool := if isIn p 0 t.size = true then readV t p.toNat 5 0 0 else (0, 0, false)
def RetV (r : Int × Int × Bool) (w : World) (e : Ending) (w' : World) : Prop := e = .returned (.tuple #[.int .i64 r.1, .int .i64 r.2.1, .bool r.2.2]) ∧ Below w.heap.size w w'
theorem wraps8 (n : Int) (h0 : 0 ≤ n) (h1 : n < 2 ^ 8) : IntKind.u8.wrap n = n := by rw [IntKind.wrap_u8]; omega
theorem and127u (c : Nat) (h : c ≤ 255) : bits .and .u8 (c : Int) 127 = ((c % 128 : Nat) : Int) := by
  rw [show bits .and .u8 (c : Int) 127 = (c : Int) % 128 from bits_mask .u8 8 (by decide) wraps8 7 (by decide) c (by omega) (by omega)]
  omega
theorem wrap_idn {x : Int} (h0 : -9223372036854775808 ≤ x) (h1 : x ≤ 9223372036854775807) : wrap64 x = x := by unfold wrap64; omega
theorem pow7 (i : Nat) : (128 : Nat) ^ i = 2 ^ (7 * i) := by rw [Nat.pow_mul]
/-- Seven bits more, as the program reckons them. -/
theorem or_more (i n c : Nat) (hi : i ≤ 4) (hn : n < 128 ^ i) (hc : c ≤ 255) :
    bits .or .i64 (n : Int) (wrap64 (wrap64 (bits .and .u8 (c : Int) 127) * 2 ^ (7 * i))) = ((n + c % 128 * 128 ^ i : Nat) : Int) := by
  have hp5 : 128 ^ i ≤ 128 ^ 4 := Nat.pow_le_pow_right (by decide) hi
  have hm : c % 128 * 128 ^ i ≤ 127 * 128 ^ i := Nat.mul_le_mul_right _ (by omega)
  have h1 : 1 ≤ 128 ^ i := Nat.one_le_pow _ _ (by decide)
  rw [and127u c hc, wrap_idn (x := ((c % 128 : Nat) : Int)) (by omega) (by omega), show ((2 : Int) ^ (7 * i)) = ((2 ^ (7 * i) : Nat) : Int) by simp, ← pow7, ← Int.natCast_mul, wrap_idn (by omega) (by omega)]
  have h := (bits_nat .i64 63 (by decide) wraps64 n (c % 128 * 128 ^ i) (by omega) (by omega)).2
  rw [h]
  congr 1
  rw [Nat.or_comm, pow7, Nat.mul_comm (c % 128), ← Nat.two_pow_add_eq_or_of_lt (by rw [← pow7]; exact hn) (c % 128)]
  omega
set_option maxHeartbeats 2000000 in
set_option maxRecDepth 100000 in
theorem readVar_calls (w : World) (t : ByteArray) (p : Int) (ht : t.size ≤ 140737488351232) : Calls Try.prog 191 #[.string t, .int .i64 p] w (RetV (readVar t p) w) := by
  rcases hi : isIn p 0 t.size with _ | _
  · have HE : Aside (readVar t p = (0, 0, false)) := ⟨by unfold readVar; rw [hi]; rfl⟩
    have HI := Aside.mk hi
    clear hi
    go_enter Try.func191, Try.ntmps191
    go_wp2_with (go_at_call 119; refine (within_calls _ _ _ _).mono ?_; rintro e w1 ⟨rfl, hb⟩; rw [HI.out]; have HB := Aside.mk hb; clear hb)
    refine bodyPost_ret (v := .tuple #[.int .i64 0, .int .i64 0, .bool false]) (by simp [results, go_sem]) rfl ⟨by rw [HE.out], HB.out⟩
  · obtain ⟨h0, h1⟩ := isIn_iff.1 hi
    obtain ⟨a, rfl⟩ := Int.eq_ofNat_of_zero_le h0
    have HE : Aside (readVar t a = readV t a 5 0 0) := ⟨by unfold readVar; rw [hi]; rfl⟩
    have HI := Aside.mk hi
    clear hi h0
    go_enter Try.func191, Try.ntmps191
    go_wp2_with (go_at_call 119; refine (within_calls _ _ _ _).mono ?_; rintro e w1 ⟨rfl, hb⟩; rw [HI.out]; have HB := Aside.mk hb; clear hb)
    go_loopw [7, 8] (fun v7 v8 wr => ∃ (i n d : Nat), d + i = 5 ∧ n < 128 ^ i ∧ v8 = .int .i64 i ∧ v7 = .int .i64 n ∧ Aside (readVar t a = readV t a d i n) ∧ Aside (Below w.heap.size w wr)) (fun _ v8 _ => 5 - (intOf v8).toNat)
    case atStart => exact ⟨0, 0, 5, rfl, by decide, rfl, rfl, HE, HB⟩
    case round =>
      clear HB HE
      obtain ⟨i, n, d, hd, hn, rfl, rfl, HE, HB⟩ := hrel
      match d, hd, HE with
      | 0, hd, HE =>
        obtain rfl : i = 5 := by omega
        go_wp2
        refine bodyPost_ret (v := .tuple #[.int .i64 0, .int .i64 0, .bool false]) (by simp [results, go_sem]) rfl ⟨by rw [HE.out]; rfl, HB.out⟩
      | d + 1, hd, HE =>
        have hi5 : (i : Int) < 5 := by omega
        obtain ⟨j, hj⟩ : ∃ j, j = a + i := ⟨_, rfl⟩
        have hji : (a : Int) + (i : Int) = (j : Int) := by omega
        by_cases hlt : j < t.size
        · have hc8 : t[j].toNat ≤ 255 := by have := t[j].toNat_lt; omega
          have e1 := or_more i n t[j].toNat (by omega) hn hc8
          obtain ⟨v, hv⟩ : ∃ v, v = n + t[j].toNat % 128 * 128 ^ i := ⟨_, rfl⟩
          rw [← hv] at e1
          have HS : Aside (readV t a (d + 1) i n = if t[j].toNat < 128 then (if v > 1000000000 then (0, 0, false) else if ((varT v).toList == (t.extract a (j + 1)).toList) = true then ((v : Int), ((j + 1 : Nat) : Int), true) else (0, 0, false)) else readV t a d (i + 1) v) := ⟨by
            subst hj
            rw [readV, dif_pos hlt]
            simp only [← hv]⟩
          have hvb : v < 128 ^ (i + 1) := by
            rw [hv, Nat.pow_succ]
            have : t[j].toNat % 128 * 128 ^ i ≤ 127 * 128 ^ i := Nat.mul_le_mul_right _ (by omega)
            omega
          have HD := Aside.mk hj
          have HN := Aside.mk hvb
          clear hj hv hn hvb
          by_cases hc : t[j].toNat < 128
          · have hcI : ¬ ((127 : Int) < (t[j].toNat : Int)) := by omega
            have HT : Aside (readVar t a = if v > 1000000000 then (0, 0, false) else if ((varT v).toList == (t.extract a (j + 1)).toList) = true then ((v : Int), ((j + 1 : Nat) : Int), true) else (0, 0, false)) := ⟨by rw [HE.out, HS.out, if_pos hc]⟩
            clear HE HS hc
            go_wp2_with (fail)
            refine (varText_calls _ v).mono ?_
            rintro e w2 ⟨rfl, hb⟩
            replace HB := Aside.mk (below_step HB.out hb)
            clear hb
            by_cases hv9 : v > 1000000000
            · have HV : Aside (varText v = (⟨#[]⟩, false)) := ⟨by unfold varText; rw [if_neg]; simp [isIn]; omega⟩
              rw [HV.out]
              dsimp only
              go_wp2
              refine bodyPost_ret (v := .tuple #[.int .i64 0, .int .i64 0, .bool false]) (by simp [results, go_sem]) rfl ⟨by rw [HT.out, if_pos hv9], HB.out⟩
            · have HV : Aside (varText v = (varT v, true)) := ⟨by unfold varText; rw [if_pos]; rfl; simp [isIn]; omega⟩
              rw [HV.out]
              dsimp only
              have hs1 : (a : Int) ≤ (j : Int) + 1 := by omega
              have hs2 : (j : Int) + 1 ≤ (t.size : Int) := by omega
              rcases hs : ((varT v).toList == (t.extract a (j + 1)).toList) with _ | _
              · have HSS := Aside.mk hs
                go_wp2
                refine bodyPost_ret (v := .tuple #[.int .i64 0, .int .i64 0, .bool false]) (by simp [results, go_sem]) rfl ⟨by rw [HT.out, if_neg hv9, if_neg (by rw [HSS.out]; decide)], HB.out⟩
              · have HSS := Aside.mk hs
                go_wp2
                refine bodyPost_ret (v := .tuple #[.int .i64 v, .int .i64 ((j : Int) + 1), .bool true]) (by simp [results, go_sem]) rfl ⟨by rw [HT.out, if_neg hv9, if_pos HSS.out]; rfl, HB.out⟩
          · have hcI : (127 : Int) < (t[j].toNat : Int) := by omega
            have HT : Aside (readVar t a = readV t a d (i + 1) v) := ⟨by rw [HE.out, HS.out, if_neg hc]⟩
            clear HE HS hc
            go_wp2
            go_roundw
            case rel => exact ⟨i + 1, v, d, by omega, HN.out, by go_num, rfl, HT, HB⟩
            case measure => simp [intOf]; omega
        · have HT : Aside (readVar t a = (0, 0, false)) := ⟨by rw [HE.out, readV, dif_neg (by omega)]⟩
          have hltI : ¬ ((j : Int) < (t.size : Int)) := by omega
          clear hj HE
          go_wp2
          refine bodyPost_ret (v := .tuple #[.int .i64 0, .int .i64 0, .bool false]) (by simp [results, go_sem]) rfl ⟨by rw [HT.out], HB.out⟩
theorem rem128u (c : Nat) : Int.tmod (c : Int) 128 = ((c % 128 : Nat) : Int) := by rw [Int.tmod_eq_emod_of_nonneg (by omega)]; omega
set_option maxHeartbeats 2000000 in
set_option maxRecDepth 100000 in
theorem specReadVar_calls (w : World) (t : ByteArray) (p : Int) (ht : t.size ≤ 140737488351232) : Calls Try.prog 177 #[.string t, .int .i64 p] w (RetV (readVar t p) w) := by
  rcases hi : isIn p 0 t.size with _ | _
  · have HE : Aside (readVar t p = (0, 0, false)) := ⟨by unfold readVar; rw [hi]; rfl⟩
    have HI := Aside.mk hi
    clear hi
    go_enter Try.func177, Try.ntmps177
    go_wp2_with (go_at_call 132; refine (l01In_calls _ _ _ _).mono ?_; rintro e w1 ⟨rfl, hb⟩; rw [HI.out]; have HB := Aside.mk hb; clear hb)
    refine bodyPost_ret (v := .tuple #[.int .i64 0, .int .i64 0, .bool false]) (by simp [results, go_sem]) rfl ⟨by rw [HE.out], HB.out⟩
  · obtain ⟨h0, h1⟩ := isIn_iff.1 hi
    obtain ⟨a, rfl⟩ := Int.eq_ofNat_of_zero_le h0
    have HE : Aside (readVar t a = readV t a 5 0 0) := ⟨by unfold readVar; rw [hi]; rfl⟩
    have HI := Aside.mk hi
    clear hi h0
    go_enter Try.func177, Try.ntmps177
    go_wp2_with (go_at_call 132; refine (l01In_calls _ _ _ _).mono ?_; rintro e w1 ⟨rfl, hb⟩; rw [HI.out]; have HB := Aside.mk hb; clear hb)
    go_loopw [7, 8, 9] (fun v7 v8 v9 wr => ∃ (i n d s j : Nat), d + i = 5 ∧ n < 128 ^ i ∧ s = 128 ^ i ∧ j = a + i ∧ v9 = .int .i64 j ∧ v8 = .int .i64 s ∧ v7 = .int .i64 n ∧ Aside (readVar t a = readV t a d i n) ∧ Aside (Below w.heap.size w wr)) (fun _ _ v9 _ => a + 5 - (intOf v9).toNat)
    case atStart => exact ⟨0, 0, 5, 1, a, rfl, by decide, rfl, rfl, rfl, rfl, rfl, HE, HB⟩
    case round =>
      clear HB HE
      obtain ⟨i, n, d, s, j, hd, hn, hs, hj, rfl, rfl, rfl, HE, HB⟩ := hrel
      have HJ := Aside.mk hj
      match d, hd, HE with
      | 0, hd, HE =>
        obtain rfl : i = 5 := by omega
        have hj5 : ¬ ((j : Int) < (a : Int) + 5) := by omega
        have HT : Aside (readVar t a = (0, 0, false)) := ⟨by rw [HE.out]; rfl⟩
        by_cases hlt : j < t.size
        all_goals
          have hltI : ((j : Int) < (t.size : Int)) ∨ ¬ ((j : Int) < (t.size : Int)) := by omega
          first
            | (have hlt2 : (j : Int) < (t.size : Int) := by omega
               clear hj hs hn hlt hltI hd HE
               go_wp2
               refine bodyPost_ret (v := .tuple #[.int .i64 0, .int .i64 0, .bool false]) (by simp [results, go_sem]) rfl ⟨by rw [HT.out], HB.out⟩)
            | (have hlt2 : ¬ ((j : Int) < (t.size : Int)) := by omega
               clear hj hs hn hlt hltI hd HE
               go_wp2
               refine bodyPost_ret (v := .tuple #[.int .i64 0, .int .i64 0, .bool false]) (by simp [results, go_sem]) rfl ⟨by rw [HT.out], HB.out⟩)
      | d + 1, hd, HE =>
        have hj5 : (j : Int) < (a : Int) + 5 := by omega
        by_cases hlt : j < t.size
        · have hltI : (j : Int) < (t.size : Int) := by omega
          have hc8 : t[j].toNat ≤ 255 := by have := t[j].toNat_lt; omega
          have hp5 : 128 ^ i ≤ 128 ^ 4 := Nat.pow_le_pow_right (by decide) (by omega)
          have hp1 : 1 ≤ 128 ^ i := Nat.one_le_pow _ _ (by decide)
          have hm : t[j].toNat % 128 * 128 ^ i ≤ 127 * 128 ^ i := Nat.mul_le_mul_right _ (by omega)
          obtain ⟨v, hv⟩ : ∃ v, v = n + t[j].toNat % 128 * 128 ^ i := ⟨_, rfl⟩
          have e1 : (n : Int) + ((t[j].toNat : Int) % 128) * (s : Int) = (v : Int) := by rw [hv, hs]; push_cast; rfl
          have e2 : ((t[j].toNat : Int) % 128) * (s : Int) ≤ 40000000000 := by rw [hs, show ((t[j].toNat : Int) % 128) * ((128 ^ i : Nat) : Int) = ((t[j].toNat % 128 * 128 ^ i : Nat) : Int) by push_cast; rfl]; omega
          have e3 : 0 ≤ ((t[j].toNat : Int) % 128) * (s : Int) := Int.mul_nonneg (by omega) (by omega)
          have HS : Aside (readV t a (d + 1) i n = if t[j].toNat < 128 then (if v > 1000000000 then (0, 0, false) else if ((varT v).toList == (t.extract a (j + 1)).toList) = true then ((v : Int), ((j + 1 : Nat) : Int), true) else (0, 0, false)) else readV t a d (i + 1) v) := ⟨by
            subst hj
            rw [readV, dif_pos hlt]
            simp only [← hv]⟩
          have hvb : v < 128 ^ (i + 1) := by rw [hv, Nat.pow_succ]; omega
          have HN := Aside.mk hvb
          have hsn : s ≤ 268435456 := by rw [hs]; omega
          have hnn : n ≤ 268435456 := by omega
          have hvv : v ≤ 34359738368 := by omega
          have HQ : Aside (s * 128 = 128 ^ (i + 1) ∧ j + 1 = a + (i + 1)) := ⟨by rw [hs, Nat.pow_succ], by omega⟩
          clear hv hn hvb hj hs hm hp5 hp1
          by_cases hc : t[j].toNat < 128
          · have hcI : (t[j].toNat : Int) < 128 := by omega
            have HT : Aside (readVar t a = if v > 1000000000 then (0, 0, false) else if ((varT v).toList == (t.extract a (j + 1)).toList) = true then ((v : Int), ((j + 1 : Nat) : Int), true) else (0, 0, false)) := ⟨by rw [HE.out, HS.out, if_pos hc]⟩
            clear HE HS hc
            by_cases hv9 : v > 1000000000
            · have HV9 := Aside.mk hv9
              have hvI : decide ((1000000000 : Int) < (v : Int)) = true := decide_eq_true (by omega)
              go_wp2
              refine zBegin (S := (fun w' => Aside (Below w.heap.size w w'))) (z := 12) (by kernel_rfl) (by exact ⟨below_drew HB.out⟩) (fun hHeld => ?_)
              refine zT 0 43 hHeld ?_
              refine zT 1 44 hHeld ?_
              refine zT 2 45 hHeld ?_
              refine zU 3 46 hHeld ?_
              refine zU 4 47 hHeld ?_
              refine zU 5 48 hHeld ?_
              refine zU 6 49 hHeld ?_
              refine zU 7 50 hHeld ?_
              refine zU 8 51 hHeld ?_
              refine zU 9 52 hHeld ?_
              refine zU 10 53 hHeld ?_
              refine zT 11 54 hHeld ?_
              refine zDone (by kernel_rfl) ?_ _
              have HB2 := hHeld
              clear hHeld
              go_wp2
              refine bodyPost_ret (v := .tuple #[.int .i64 0, .int .i64 0, .bool false]) (by simp [results, go_sem]) rfl ⟨by rw [HT.out, if_pos hv9], below_drew HB.out⟩
            · have HV9 := Aside.mk hv9
              have hvI : decide ((1000000000 : Int) < (v : Int)) = false := decide_eq_false (by omega)
              have hs1 : (a : Int) ≤ (j : Int) + 1 := by have := HJ.out; omega
              have hs2 : (j : Int) + 1 ≤ (t.size : Int) := by omega
              have hwr : IntKind.i64.wrap ((j : Int) + 1) = (j : Int) + 1 := wraps64 _ (by omega) (by omega)
              have hsl : ∀ w', (Instr.slice 9 (.string t) (some (.int .i64 (a : Int))) (some (.int .i64 ((j : Int) + 1))) none).run Try.prog w' = .ok (.string (t.extract a (j + 1))) w' := fun w' => by
                have h := run_slice_string (P := Try.prog) w' 9 t .i64 .i64 (a : Int) ((j : Int) + 1) Try.underlying9 (by omega) hs1 hs2
                rw [show ((j : Int) + 1).toNat = j + 1 by omega, Int.toNat_natCast] at h
                exact h
              rcases hs : ((varT v).toList == (t.extract a (j + 1)).toList) with _ | _
              · have HSS := Aside.mk hs
                go_wp2
                refine zBegin (S := (fun w' => Aside (Below w.heap.size w w'))) (z := 12) (by kernel_rfl) (by exact ⟨below_drew HB.out⟩) (fun hHeld => ?_)
                refine zT 0 43 hHeld ?_
                refine zT 1 44 hHeld ?_
                refine zT 2 45 hHeld ?_
                refine zT 3 46 hHeld ?_
                refine zT 5 48 hHeld ?_
                refine zT 6 49 hHeld ?_
                refine zT 7 50 hHeld ?_
                refine zT 8 51 hHeld ?_
                refine zT 9 52 hHeld ?_
                refine zReady (rs := [4]) (by kernel_rfl) (by simp) ?_
                refine zOne (by decide) rfl (fun K hK => ?_) zNil
                go_simp
                refine (l01Var_calls _ v (by omega)).mono ?_; rintro e w2 ⟨rfl, hb⟩
                refine hK.out _ _ (by exact ⟨below_step hHeld.out hb⟩) (fun hHeld => ?_)
                clear hK K
                (try simp only [Act.put, List.setIfInBounds_toArray, List.set_cons_zero, List.set_cons_succ])
                clear hb
                refine zT 10 53 hHeld ?_
                refine zT 11 54 hHeld ?_
                refine zDone (by kernel_rfl) ?_ _
                have HB2 := hHeld
                go_wp2
                refine bodyPost_ret (v := .tuple #[.int .i64 0, .int .i64 0, .bool false]) (by simp [results, go_sem]) rfl ⟨by rw [HT.out, if_neg hv9, if_neg (by rw [HSS.out]; decide)], HB2.out⟩
              · have HSS := Aside.mk hs
                go_wp2
                refine zBegin (S := (fun w' => Aside (Below w.heap.size w w'))) (z := 12) (by kernel_rfl) (by exact ⟨below_drew HB.out⟩) (fun hHeld => ?_)
                refine zT 0 43 hHeld ?_
                refine zT 1 44 hHeld ?_
                refine zT 2 45 hHeld ?_
                refine zT 3 46 hHeld ?_
                refine zT 5 48 hHeld ?_
                refine zT 6 49 hHeld ?_
                refine zT 7 50 hHeld ?_
                refine zT 8 51 hHeld ?_
                refine zT 9 52 hHeld ?_
                refine zReady (rs := [4]) (by kernel_rfl) (by simp) ?_
                refine zOne (by decide) rfl (fun K hK => ?_) zNil
                go_simp
                refine (l01Var_calls _ v (by omega)).mono ?_; rintro e w2 ⟨rfl, hb⟩
                refine hK.out _ _ (by exact ⟨below_step hHeld.out hb⟩) (fun hHeld => ?_)
                clear hK K
                (try simp only [Act.put, List.setIfInBounds_toArray, List.set_cons_zero, List.set_cons_succ])
                clear hb
                refine zT 10 53 hHeld ?_
                refine zT 11 54 hHeld ?_
                refine zDone (by kernel_rfl) ?_ _
                have HB2 := hHeld
                go_wp2
                refine bodyPost_ret (v := .tuple #[.int .i64 v, .int .i64 ((j : Int) + 1), .bool true]) (by simp [results, go_sem]) rfl ⟨by rw [HT.out, if_neg hv9, if_pos HSS.out]; rfl, HB2.out⟩
          · have hcI : ¬ ((t[j].toNat : Int) < 128) := by omega
            have HT : Aside (readVar t a = readV t a d (i + 1) v) := ⟨by rw [HE.out, HS.out, if_neg hc]⟩
            clear HE HS hc
            go_wp2
            go_roundw
            case rel => exact ⟨i + 1, v, d, s * 128, j + 1, by omega, HN.out, HQ.out.1, HQ.out.2, by go_num, by go_num, rfl, HT, HB⟩
            case measure => simp [intOf]; have := HJ.out; omega
        · have HT : Aside (readVar t a = (0, 0, false)) := ⟨by rw [HE.out, readV, dif_neg (by omega)]⟩
          have hltI : ¬ ((j : Int) < (t.size : Int)) := by omega
          clear hj HE hs hn
          go_wp2
          refine bodyPost_ret (v := .tuple #[.int .i64 0, .int .i64 0, .bool false]) (by simp [results, go_sem]) rfl ⟨by rw [HT.out], HB.out⟩
end Go.Proofs.Ytjfjpabfkembcaa.H
