/- A mail's text, there and back, on lists of bytes. A mail's text: MailText of both: the walks. A mail's text: MailText of both: the walks. A mail's text, by the reference: how long it may be (a draw's text): the walk. There and back between a mail and its text, as the statement asks it. No program in it. -/
import Derived.Test.YtjfjpabfkembcaaHReadMail
import Derived.Test.YtjfjpabfkembcaaHTurnPure
namespace Go.Proofs.Ytjfjpabfkembcaa.H
open Go.RowKit
set_option linter.unusedVariables false
set_option linter.unusedSimpArgs false
/-! A mail's text, there and back, on lists of bytes. -/
theorem nums_cut (t : ByteArray) (a b : Nat) : nums (t.extract a b) = ((nums t).drop a).take (b - a) := by
  unfold nums
  rw [ByteArray.data_extract, Array.toList_extract, List.extract_eq_take_drop, List.map_take, List.map_drop]
theorem toList_nums {a b : ByteArray} (h : (a.toList == b.toList) = true) : nums a = nums b := by
  have h := eq_of_beq h
  rw [ByteArray.toList_eq, ByteArray.toList_eq] at h
  unfold nums
  rw [h]
theorem nums_toList {a b : ByteArray} (h : nums a = nums b) : (a.toList == b.toList) = true := by
  rw [nums_inj h]
  simp
theorem drop_cons {t : ByteArray} {i : Nat} {x : Int} {l : List Int} (h : (nums t).drop i = x :: l) : ∃ hi : i < t.size, (t[i].toNat : Int) = x ∧ (nums t).drop (i + 1) = l := by
  have hi : i < t.size := by
    rcases Nat.lt_or_ge i t.size with h1 | h1
    · exact h1
    · rw [nums_end t i h1] at h
      cases h
  rw [nums_drop t i hi] at h
  injection h with h1 h2
  exact ⟨hi, h1, h2⟩
theorem var7_pos (n : Nat) : 0 < (var7 n).length := by
  by_cases h : n > 127
  · rw [var7_big h]; simp
  · rw [var7_small h]; simp
theorem var7_bytes (d : Nat) : ∀ n : Nat, n < 128 ^ (d + 1) → ∀ x ∈ var7 n, 0 ≤ x ∧ x ≤ 255 := by
  induction d with
  | zero =>
    intro n h x hx
    rw [var7_small (by omega)] at hx
    simp at hx
    omega
  | succ d ih =>
    intro n h x hx
    by_cases hb : n > 127
    · rw [var7_big hb] at hx
      rcases List.mem_cons.1 hx with rfl | hx
      · omega
      · refine ih (n / 128) ?_ x hx
        apply Nat.div_lt_of_lt_mul
        rw [Nat.pow_succ] at h
        omega
    · rw [var7_small hb] at hx
      simp at hx
      omega
theorem varT_nums {n : Nat} (h : n ≤ 1000000000) : nums (varT n) = var7 n := nums_str (var7_bytes 4 n (by omega))
theorem readV_back (t : ByteArray) (a n : Nat) (hn : n ≤ 1000000000) (d : Nat) : ∀ (m i acc : Nat) (rest : List Int), (nums t).drop (a + i) = var7 m ++ rest → (var7 m).length ≤ d → acc + m * 128 ^ i = n →
    ((nums t).drop a).take (i + (var7 m).length) = var7 n → readV t a d i acc = ((n : Int), ((a + i + (var7 m).length : Nat) : Int), true) := by
  induction d with
  | zero =>
    intro m i acc rest _ hd
    have := var7_pos m
    omega
  | succ d ih =>
    intro m i acc rest h hd he hx
    unfold readV
    by_cases hb : m > 127
    · rw [var7_big hb] at h hd hx ⊢
      rw [List.cons_append] at h
      obtain ⟨h1, h2, h3⟩ := drop_cons h
      have e2 : t[a + i].toNat = m % 128 + 128 := by omega
      rw [dif_pos h1, if_neg (by omega), e2]
      have e3 : (m % 128 + 128) % 128 = m % 128 := by omega
      rw [e3]
      simp only [List.length_cons] at hd hx ⊢
      have := ih (m / 128) (i + 1) (acc + m % 128 * 128 ^ i) rest h3 (by omega) (by
        rw [Nat.pow_succ, ← he, Nat.add_assoc, Nat.mul_comm (128 ^ i) 128, ← Nat.mul_assoc, ← Nat.add_mul]
        congr 2
        omega) (by rw [← hx]; congr 1; omega)
      rw [this]
      congr 2
      omega
    · rw [var7_small hb] at h hd hx ⊢
      rw [List.cons_append] at h
      obtain ⟨h1, h2, h3⟩ := drop_cons h
      have e2 : t[a + i].toNat = m := by omega
      rw [dif_pos h1, if_pos (by omega), e2, Nat.mod_eq_of_lt (by omega), he, if_neg (by omega)]
      simp only [List.length_cons, List.length_nil, Nat.zero_add] at hx ⊢
      rw [if_pos (nums_toList (by rw [nums_cut, varT_nums hn, ← hx]; congr 1; omega))]
theorem readVar_back (t : ByteArray) (a n : Nat) (hn : n ≤ 1000000000) (rest : List Int) (h : (nums t).drop a = var7 n ++ rest) :
    readVar t (a : Int) = ((n : Int), ((a + (var7 n).length : Nat) : Int), true) := by
  have hp := var7_pos n
  have hl : a ≤ t.size := by
    rcases Nat.lt_or_ge a t.size with h1 | h1
    · omega
    · rw [nums_end t a h1] at h
      have := congrArg List.length h
      simp at this
      omega
  unfold readVar
  rw [if_pos (isIn_iff.2 ⟨by omega, by omega⟩), Int.toNat_natCast]
  have := readV_back t a n hn 5 n 0 0 rest (by simpa using h) (var7_length 4 n (by omega)) (by omega) (by rw [h, Nat.zero_add, List.take_left])
  simpa using this
/-- What is read is what stands there. -/
theorem readV_fwd (t : ByteArray) (a : Nat) (d : Nat) : ∀ i acc r q, readV t a d i acc = (r, q, true) → ∃ n b : Nat, r = n ∧ q = b ∧ n ≤ 1000000000 ∧ a ≤ b ∧ b ≤ t.size ∧ var7 n = ((nums t).drop a).take (b - a) := by
  induction d with
  | zero =>
    intro i acc r q h
    simp [readV] at h
  | succ d ih =>
    intro i acc r q h
    rw [readV] at h
    split at h
    · rename_i hlt
      split at h
      · split at h
        · simp at h
        · rename_i hv
          split at h
          · rename_i hc
            simp only [Prod.mk.injEq, and_true] at h
            obtain ⟨rfl, rfl⟩ := h
            have hc := toList_nums hc
            rw [varT_nums (by omega), nums_cut] at hc
            exact ⟨_, _, rfl, rfl, by omega, by omega, by omega, hc⟩
          · simp at h
      · exact ih _ _ _ _ h
    · simp at h
theorem readVar_fwd {t : ByteArray} {p r q : Int} (h : readVar t p = (r, q, true)) : ∃ a n b : Nat, p = a ∧ r = n ∧ q = b ∧ n ≤ 1000000000 ∧ a ≤ b ∧ b ≤ t.size ∧ (nums t).drop a = var7 n ++ (nums t).drop b := by
  unfold readVar at h
  split at h
  · rename_i hi
    obtain ⟨h0, h1⟩ := isIn_iff.1 hi
    obtain ⟨a, rfl⟩ := Int.eq_ofNat_of_zero_le h0
    rw [Int.toNat_natCast] at h
    obtain ⟨n, b, rfl, rfl, hn, hab, hb, hv⟩ := readV_fwd t a 5 _ _ _ _ h
    refine ⟨a, n, b, rfl, rfl, rfl, hn, hab, hb, ?_⟩
    rw [hv]
    conv => lhs; rw [← List.take_append_drop (b - a) ((nums t).drop a), List.drop_drop]
    rw [show a + (b - a) = b by omega]
  · simp at h
/-! ### a mail -/
def varL (n : Int) : List Int := var7 n.toNat
def regL (r : Reg) : List Int := varL r.v ++ (varL r.t ++ varL r.b)
def regsL : List Reg → List Int
  | [] => []
  | r :: l => regL r ++ regsL l
def shortL (s : ByteArray) : List Int := var7 s.size ++ nums s
def mailL (m : Mail) : List Int := varL m.g ++ (varL m.u ++ (regsL m.fl ++ shortL m.tx))
theorem num_back {t : ByteArray} {a : Nat} {n : Int} {rest : List Int} (h0 : 0 ≤ n) (h1 : n ≤ 1000000000) (h : (nums t).drop a = varL n ++ rest) :
    numS t ((a : Int), false) = (n, ((a + (varL n).length : Nat) : Int), false) ∧ (nums t).drop (a + (varL n).length) = rest := by
  obtain ⟨k, rfl⟩ := Int.eq_ofNat_of_zero_le h0
  have e := readVar_back t a k (by omega) rest h
  refine ⟨?_, ?_⟩
  · unfold numS
    rw [if_neg (by simp)]
    simp only [e, ↓reduceIte]
    rfl
  · rw [← List.drop_drop, h, List.drop_left]
theorem num_fwd {t : ByteArray} {s : Int × Bool} {n q : Int} (h : numS t s = (n, q, false)) : s.2 = false ∧ ∃ a b : Nat, s.1 = a ∧ q = b ∧ 0 ≤ n ∧ n ≤ 1000000000 ∧ a ≤ b ∧ b ≤ t.size ∧ (nums t).drop a = varL n ++ (nums t).drop b := by
  unfold numS at h
  split at h
  · simp at h
  · rename_i hs
    split at h
    · rename_i hr
      simp only [Prod.mk.injEq, and_true] at h
      obtain ⟨rfl, rfl⟩ := h
      have e : readVar t s.1 = ((readVar t s.1).1, (readVar t s.1).2.1, true) := by rw [← hr]
      obtain ⟨a, n, b, h1, h2, h3, h4, h5, h6, h7⟩ := readVar_fwd e
      refine ⟨by simpa using hs, a, b, h1, h3, by omega, by omega, h5, h6, ?_⟩
      rw [h2]
      exact h7
    · simp at h
theorem reg_back {t : ByteArray} {a : Nat} {r : Reg} {rest : List Int} (hr : regOk r = true) (h : (nums t).drop a = regL r ++ rest) :
    regS t ((a : Int), false) = (r, ((a + (regL r).length : Nat) : Int), false) ∧ (nums t).drop (a + (regL r).length) = rest := by
  simp only [regOk, stampOk, Bool.and_eq_true, isIn_iff] at hr
  obtain ⟨⟨⟨ht0, ht1⟩, hb0, hb1⟩, hv0, hv1⟩ := hr
  have e : regL r = varL r.v ++ (varL r.t ++ varL r.b) := rfl
  rw [e, List.append_assoc, List.append_assoc] at h
  obtain ⟨e1, h1⟩ := num_back hv0 hv1 h
  obtain ⟨e2, h2⟩ := num_back ht0 (by omega) h1
  obtain ⟨e3, h3⟩ := num_back hb0 (by omega) h2
  have hlen : a + (regL r).length = a + (varL r.v).length + (varL r.t).length + (varL r.b).length := by rw [e, List.length_append, List.length_append]; omega
  refine ⟨?_, by rw [hlen]; exact h3⟩
  unfold regS
  simp only [e1, e2, e3, hlen]
theorem regs_back {t : ByteArray} : ∀ (l : List Reg) {a : Nat} {rest : List Int}, (∀ r ∈ l, regOk r = true) → (nums t).drop a = regsL l ++ rest →
    regsS t l.length ((a : Int), false) = (l, ((a + (regsL l).length : Nat) : Int), false) ∧ (nums t).drop (a + (regsL l).length) = rest
  | [], a, rest, _, h => ⟨rfl, h⟩
  | r :: l, a, rest, hl, h => by
    have e : regsL (r :: l) = regL r ++ regsL l := rfl
    rw [e, List.append_assoc] at h
    obtain ⟨e1, h1⟩ := reg_back (hl r (by simp)) h
    obtain ⟨e2, h2⟩ := regs_back l (fun x hx => hl x (by simp [hx])) h1
    have hlen : a + (regsL (r :: l)).length = a + (regL r).length + (regsL l).length := by rw [e, List.length_append]; omega
    refine ⟨?_, by rw [hlen]; exact h2⟩
    simp only [List.length_cons, regsS, e1, e2, hlen]
theorem short_back {t : ByteArray} {a : Nat} {s : ByteArray} {rest : List Int} (hs : s.size ≤ 20000) (h : (nums t).drop a = shortL s ++ rest) :
    shortS t ((a : Int), false) = (s, ((a + (shortL s).length : Nat) : Int), false) := by
  have e : shortL s = var7 s.size ++ nums s := rfl
  rw [e, List.append_assoc] at h
  have e1 := readVar_back t a s.size (by omega) _ h
  have h1 : (nums t).drop (a + (var7 s.size).length) = nums s ++ rest := by rw [← List.drop_drop, h, List.drop_left]
  have hl := congrArg List.length h1
  rw [List.length_drop, nums_len, List.length_append, nums_len] at hl
  have hlen : (shortL s).length = (var7 s.size).length + s.size := by rw [e, List.length_append, nums_len]
  have hl0 := congrArg List.length h
  have hp := var7_pos s.size
  rw [List.length_drop, nums_len, List.length_append] at hl0
  have hx : t.extract (a + (var7 s.size).length) (a + (var7 s.size).length + s.size) = s := nums_inj (by
    rw [nums_cut, h1, show a + (var7 s.size).length + s.size - (a + (var7 s.size).length) = s.size by omega, List.take_left' (nums_len s)])
  have hr : readShort t (a : Int) = (s, ((a + (shortL s).length : Nat) : Int), true) := by
    unfold readShort
    simp only [e1, ↓reduceIte]
    rw [if_neg (by omega)]
    rw [if_neg (by omega), Int.toNat_natCast, show (((a + (var7 s.size).length : Nat) : Int) + (s.size : Int)).toNat = a + (var7 s.size).length + s.size by omega, hx, hlen]
    simp only [Prod.mk.injEq, and_true, true_and]
    omega
  unfold shortS
  rw [if_neg (by simp)]
  simp only [hr, ↓reduceIte]
theorem flagsAll_mem : ∀ {l : List Reg}, flagsAll l = true → ∀ r ∈ l, flagOk r = true
  | [], _, r, hr => by cases hr
  | x :: l, h, r, hr => by
    simp only [flagsAll, Bool.and_eq_true] at h
    rcases List.mem_cons.1 hr with rfl | hr
    · exact h.1
    · exact flagsAll_mem h.2 r hr
/-- A mail is read back out of its text. -/
theorem mail_back {t : ByteArray} {a : Nat} {m : Mail} {rest : List Int} (hm : mailOk m = true) (h : (nums t).drop a = mailL m ++ rest) :
    readMail t (a : Int) = (m, ((a + (mailL m).length : Nat) : Int), true) := by
  have hm' := hm
  simp only [mailOk, flagsOk, Bool.and_eq_true, isIn_iff, decide_eq_true_eq] at hm
  obtain ⟨⟨⟨⟨hg0, hg1⟩, hu0, hu1⟩, hfa, hfl⟩, htx⟩ := hm
  have e : mailL m = varL m.g ++ (varL m.u ++ (regsL m.fl ++ shortL m.tx)) := rfl
  rw [e, List.append_assoc, List.append_assoc, List.append_assoc] at h
  obtain ⟨e1, h1⟩ := num_back (by omega) (by omega) h
  obtain ⟨e2, h2⟩ := num_back (by omega) (by omega) h1
  obtain ⟨e3, h3⟩ := regs_back m.fl (fun r hr => by
    have := flagsAll_mem hfa r hr
    simp only [flagOk, Bool.and_eq_true] at this
    exact this.1) h2
  rw [hfl] at e3
  have e4 := short_back (by omega) h3
  have hlen : a + (mailL m).length = a + (varL m.g).length + (varL m.u).length + (regsL m.fl).length + (shortL m.tx).length := by rw [e, List.length_append, List.length_append, List.length_append]; omega
  have em : mailS t ((a : Int), false) = (m, ((a + (mailL m).length : Nat) : Int), false) := by
    unfold mailS
    simp only [e1, e2, e3, e4, hlen]
  unfold readMail
  simp only [em, hm']
  simp
theorem reg_fwd {t : ByteArray} {s : Int × Bool} {r : Reg} {q : Int} (h : regS t s = (r, q, false)) : s.2 = false ∧ ∃ a b : Nat, s.1 = a ∧ q = b ∧ (nums t).drop a = regL r ++ (nums t).drop b := by
  unfold regS at h
  simp only [Prod.mk.injEq] at h
  obtain ⟨hr, hq⟩ := h
  obtain ⟨v, s1⟩ : ∃ x, x = numS t s := ⟨_, rfl⟩
  have k1 : numS t s = ((numS t s).1, (numS t s).2) := rfl
  generalize hs1 : (numS t s).2 = s1 at hr hq k1
  generalize hs2 : (numS t s1).2 = s2 at hr hq
  generalize hs3 : (numS t s2).2 = s3 at hq
  obtain ⟨hq1, hq2⟩ : s3.1 = q ∧ s3.2 = false := by rw [hq]; exact ⟨rfl, rfl⟩
  have f3 : numS t s2 = ((numS t s2).1, q, false) := by rw [← hq, ← hs3]
  obtain ⟨z2, a3, b3, p3, p4, _, _, _, _, d3⟩ := num_fwd f3
  have f2 : numS t s1 = ((numS t s1).1, s2.1, false) := by rw [← z2, ← hs2]
  obtain ⟨z1, a2, b2, p5, p6, _, _, _, _, d2⟩ := num_fwd f2
  have f1 : numS t s = ((numS t s).1, s1.1, false) := by rw [← z1, ← hs1]
  obtain ⟨z0, a1, b1, p7, p8, _, _, _, _, d1⟩ := num_fwd f1
  refine ⟨z0, a1, b3, p7, p4, ?_⟩
  have x1 : b1 = a2 := by omega
  have x2 : b2 = a3 := by omega
  subst x1 x2
  rw [d1, d2, d3, ← hr]
  simp only [regL, List.append_assoc]
theorem regs_fwd {t : ByteArray} : ∀ (k : Nat) {s : Int × Bool} {l : List Reg} {q : Int}, regsS t (k + 1) s = (l, q, false) → s.2 = false ∧ ∃ a b : Nat, s.1 = a ∧ q = b ∧ (nums t).drop a = regsL l ++ (nums t).drop b
  | 0, s, l, q, h => by
    simp only [regsS, Prod.mk.injEq] at h
    obtain ⟨hl, hq⟩ := h
    have f : regS t s = ((regS t s).1, q, false) := by rw [← hq]
    obtain ⟨z, a, b, h1, h2, h3⟩ := reg_fwd f
    refine ⟨z, a, b, h1, h2, ?_⟩
    rw [← hl]
    simpa [regsL] using h3
  | k + 1, s, l, q, h => by
    rw [regsS] at h
    simp only [Prod.mk.injEq] at h
    obtain ⟨hl, hq⟩ := h
    have f : regsS t (k + 1) (regS t s).2 = ((regsS t (k + 1) (regS t s).2).1, q, false) := by rw [← hq]
    obtain ⟨z, a, b, h1, h2, h3⟩ := regs_fwd k f
    have g : regS t s = ((regS t s).1, (regS t s).2.1, false) := by rw [← z]
    obtain ⟨y, c, d, g1, g2, g3⟩ := reg_fwd g
    have x : d = a := by omega
    subst x
    refine ⟨y, c, b, g1, h2, ?_⟩
    rw [g3, h3, ← hl]
    simp only [regsL, List.append_assoc]
theorem short_fwd {t : ByteArray} {s : Int × Bool} {x : ByteArray} {q : Int} (h : shortS t s = (x, q, false)) : s.2 = false ∧ ∃ a b : Nat, s.1 = a ∧ q = b ∧ (nums t).drop a = shortL x ++ (nums t).drop b := by
  unfold shortS at h
  split at h
  · simp at h
  · rename_i hs
    split at h
    · rename_i hr
      simp only [Prod.mk.injEq, and_true] at h
      obtain ⟨rfl, rfl⟩ := h
      refine ⟨by simpa using hs, ?_⟩
      unfold readShort at hr ⊢
      split at hr
      · rename_i hv
        have e : readVar t s.1 = ((readVar t s.1).1, (readVar t s.1).2.1, true) := by rw [← hv]
        obtain ⟨a, n, b, h1, h2, h3, h4, h5, h6, h7⟩ := readVar_fwd e
        rw [if_pos hv]
        split at hr
        · simp at hr
        · rename_i hn
          split at hr
          · simp at hr
          · rename_i hz
            rw [if_neg hn, if_neg hz]
            rw [h2, h3] at hz ⊢
            have hbn : b + n ≤ t.size := by omega
            have ex : (((b : Nat) : Int) + ((n : Nat) : Int)).toNat = b + n := by omega
            have hsz : (t.extract b (b + n)).size = n := by rw [ByteArray.size_extract]; omega
            refine ⟨a, b + n, h1, by push_cast; rfl, ?_⟩
            simp only [Int.toNat_natCast, ex]
            rw [h7]
            unfold shortL
            rw [hsz, nums_cut, List.append_assoc, show b + n - b = n by omega, ← List.drop_drop, List.take_append_drop]
      · simp at hr
    · simp at h
/-- What is read as a mail is a mail's text. -/
theorem mail_fwd {t : ByteArray} {p q : Int} {m : Mail} (h : readMail t p = (m, q, true)) : mailOk m = true ∧ ∃ a b : Nat, p = a ∧ q = b ∧ (nums t).drop a = mailL m ++ (nums t).drop b := by
  unfold readMail at h
  split at h
  · simp at h
  · rename_i hc
    have hc2 : mailOk (mailS t (p, false)).1 = true := by
      rcases hk : mailOk (mailS t (p, false)).1 with _ | _
      · exact absurd (Or.inr hk) hc
      · rfl
    have hc1 : (mailS t (p, false)).2.2 = false := by
      rcases hk : (mailS t (p, false)).2.2 with _ | _
      · rfl
      · exact absurd (Or.inl hk) hc
    simp only [Prod.mk.injEq, and_true] at h
    obtain ⟨rfl, rfl⟩ := h
    refine ⟨hc2, ?_⟩
    clear hc hc2
    unfold mailS at hc1 ⊢
    dsimp only at hc1 ⊢
    generalize hs1 : (numS t (p, false)).2 = s1 at *
    generalize hs2 : (numS t s1).2 = s2 at *
    generalize hs3 : (regsS t 3 s2).2 = s3 at *
    have f4 : shortS t s3 = ((shortS t s3).1, (shortS t s3).2.1, false) := by rw [← hc1]
    obtain ⟨z3, a4, b4, p1, p2, d4⟩ := short_fwd f4
    have f3 : regsS t 3 s2 = ((regsS t 3 s2).1, s3.1, false) := by rw [← z3, ← hs3]
    obtain ⟨z2, a3, b3, p3, p4, d3⟩ := regs_fwd 2 f3
    have f2 : numS t s1 = ((numS t s1).1, s2.1, false) := by rw [← z2, ← hs2]
    obtain ⟨z1, a2, b2, p5, p6, _, _, _, _, d2⟩ := num_fwd f2
    have f1 : numS t (p, false) = ((numS t (p, false)).1, s1.1, false) := by
      have e : (numS t (p, false)).2 = (s1.1, false) := by rw [hs1, ← z1]
      rw [← e]
    obtain ⟨z0, a1, b1, p7, p8, _, _, _, _, d1⟩ := num_fwd f1
    have x1 : b1 = a2 := by omega
    have x2 : b2 = a3 := by omega
    have x3 : b3 = a4 := by omega
    subst x1 x2 x3
    refine ⟨a1, b4, p7, p2, ?_⟩
    rw [d1, d2, d3, d4]
    simp only [mailL, List.append_assoc]
/-- A mail's text. -/
def mailT (m : Mail) : ByteArray × Bool := if mailOk m = true then (strOfNums (mailL m), true) else (⟨#[]⟩, false)
/-! A mail's text: MailText of both: the walks. -/
def varsL : List Int → List Int
  | [] => []
  | x :: l => varL x ++ varsL l
theorem varsL_app (a b : List Int) : varsL (a ++ b) = varsL a ++ varsL b := by
  induction a with
  | nil => rfl
  | cons x l ih => simp only [List.cons_append, varsL, ih, List.append_assoc]
theorem varT_size {n : Nat} (h : n ≤ 1000000000) : (varT n).size ≤ 5 := by
  rw [varT, strOfNums_size]
  exact var7_length 4 n (by omega)
theorem big_app {s t : ByteArray} {n m : Nat} (hs : s.size ≤ n) (ht : t.size ≤ m) (h : n + m ≤ 9223372036854775807) : ¬ (9223372036854775807 < s.size + t.size) := by omega
theorem app_size {s t : ByteArray} {n m : Nat} (hs : s.size ≤ n) (ht : t.size ≤ m) : (s ++ t).size ≤ n + m := by rw [ByteArray.size_append]; omega
theorem varText_ok {n : Nat} (h : n ≤ 1000000000) : varText (n : Int) = (varT n, true) := by
  unfold varText
  rw [if_pos (isIn_iff.2 ⟨by omega, by omega⟩)]
  rfl
theorem str_of_nums {s : ByteArray} {l : List Int} (h : nums s = l) : s = strOfNums l := by rw [← h, str_nums]
set_option maxHeartbeats 2000000 in
set_option maxRecDepth 100000 in
theorem vars_calls (w : World) (A : Option Addr) (c : Nat) (l : List Int) (h : rdInts w (.slice A l.length c) l) (hl : ∀ x ∈ l, 0 ≤ x ∧ x ≤ 1000000000) (h3 : l.length ≤ 3) :
    Calls Try.prog 142 #[.slice A l.length c] w fun e w' => e = .returned (.string (strOfNums (varsL l))) ∧ Below w.heap.size w w' := by
  have HR := Aside.mk h
  clear h
  go_enter Try.func142, Try.ntmps142
  go_wp2
  go_loopw [3, 10] (fun v3 v10 wr => ∃ (i : Nat) (s : ByteArray), i ≤ l.length ∧ v3 = .string s ∧ v10 = .int .i64 i ∧ Aside (nums s = varsL (l.take i)) ∧ Aside (s.size ≤ 5 * i) ∧ Aside (Below w.heap.size w wr)) (fun _ v10 _ => l.length - (intOf v10).toNat)
  case atStart => exact ⟨0, _, Nat.zero_le _, rfl, rfl, ⟨rfl⟩, ⟨Nat.le_refl _⟩, ⟨Below.refl _ _⟩⟩
  case round =>
    obtain ⟨i, s, hi, rfl, rfl, HV, HS, HB⟩ := hrel
    rcases Nat.lt_or_ge i l.length with hlt | hge
    · obtain ⟨ad, hA, x0⟩ := rdInts_at (rdInts_mov HB.out HR.out) i hlt
      subst hA
      have hx := hl l[i] (List.getElem_mem hlt)
      obtain ⟨k, hk⟩ := Int.eq_ofNat_of_zero_le hx.1
      have hkb : k ≤ 1000000000 := by omega
      have HV2 : Aside (nums (s ++ varT k) = varsL (l.take (i + 1))) := ⟨by
        rw [nums_app, HV.out, varT_nums hkb, List.take_succ_eq_append_getElem hlt, varsL_app, hk]
        simp only [varsL, List.append_nil]
        rfl⟩
      have hb1 := big_app HS.out (varT_size hkb) (by omega)
      have HS2 : Aside ((s ++ varT k).size ≤ 5 * (i + 1)) := ⟨by have := app_size HS.out (varT_size hkb); omega⟩
      rw [hk] at x0
      clear hx hk
      rcases Nat.eq_zero_or_pos i with hz | hz
      · subst hz
        rw [add0] at x0
        have hlI : (0 : Int) < (l.length : Int) := by omega
        go_wp2_with (fail)
        refine (varText_calls _ k).mono ?_
        rintro e w1 ⟨rfl, hb⟩
        rw [varText_ok hkb]
        dsimp only
        have HB2 := Aside.mk (below_step HB.out hb)
        clear hb
        go_wp2
        go_roundw
        case rel => exact ⟨1, _, by omega, rfl, by go_num, HV2, HS2, HB2⟩
        case measure => simp [intOf]; omega
      · have hlI : (i : Int) < (l.length : Int) := by omega
        go_wp2_with (fail)
        refine (varText_calls _ k).mono ?_
        rintro e w1 ⟨rfl, hb⟩
        rw [varText_ok hkb]
        dsimp only
        have HB2 := Aside.mk (below_step HB.out hb)
        clear hb
        go_wp2
        go_roundw
        case rel => exact ⟨i + 1, _, by omega, rfl, by go_num, HV2, HS2, HB2⟩
        case measure => simp [intOf]; omega
    · have hge' : ¬ ((i : Int) < (l.length : Int)) := by omega
      have HW : Aside (s = strOfNums (varsL l)) := ⟨str_of_nums (by rw [HV.out, List.take_of_length_le hge])⟩
      clear HV HS
      go_wp2
      go_ret
      exact ⟨by rw [← HW.out]; rfl, HB.out⟩
def shortT (s : ByteArray) : ByteArray := strOfNums (shortL s)
theorem shortT_eq {s : ByteArray} (h : s.size ≤ 20000) : varT s.size ++ s = shortT s := str_of_nums (by rw [nums_app, varT_nums (by omega)]; rfl)
theorem shortT_size {s : ByteArray} (h : s.size ≤ 20000) : (shortT s).size ≤ s.size + 5 := by
  rw [← shortT_eq h, ByteArray.size_append]
  have := varT_size (n := s.size) (by omega)
  omega
set_option maxHeartbeats 2000000 in
set_option maxRecDepth 100000 in
theorem shortText_calls (w : World) (s : ByteArray) (h : s.size ≤ 20000) : Calls Try.prog 185 #[.string s] w fun e w' => e = .returned (.tuple #[.string (shortT s), .bool true]) ∧ Below w.heap.size w w' := by
  have hI : ¬ ((20000 : Int) < (s.size : Int)) := by omega
  have h5 := varT_size (n := s.size) (by omega)
  have hb1 : ¬ (9223372036854775807 < (varT s.size).size + s.size) := by omega
  have HE := Aside.mk (shortT_eq h)
  go_enter Try.func185, Try.ntmps185
  go_wp2_with (fail)
  refine (varText_calls _ (s.size : Int)).mono ?_
  rintro e w1 ⟨rfl, hb⟩
  rw [varText_ok (by omega)]
  dsimp only
  have HB := Aside.mk hb
  clear hb
  go_wp2
  refine bodyPost_ret (v := .tuple #[.string (varT s.size ++ s), .bool true]) (by simp [results, go_sem]) rfl ⟨by rw [HE.out], HB.out⟩
set_option maxHeartbeats 2000000 in
set_option maxRecDepth 100000 in
theorem shortS_calls (w : World) (s : ByteArray) (h : s.size ≤ 20000) : Calls Try.prog 143 #[.string s] w fun e w' => e = .returned (.string (shortT s)) ∧ Below w.heap.size w w' := by
  go_enter Try.func143, Try.ntmps143
  go_wp2_with (fail)
  refine (shortText_calls _ s h).mono ?_
  rintro e w1 ⟨rfl, hb⟩
  have HB := Aside.mk hb
  clear hb
  go_wp2
  go_ret
  exact ⟨rfl, HB.out⟩
/-! A mail's text: MailText of both: the walks. -/
theorem regsL_app (a b : List Reg) : regsL (a ++ b) = regsL a ++ regsL b := by
  induction a with
  | nil => rfl
  | cons x l ih => simp only [List.cons_append, regsL, ih, List.append_assoc]
theorem varL_len {n : Int} (h : n ≤ 1000000000) : (varL n).length ≤ 5 := var7_length 4 _ (by omega)
theorem str_size {l : List Int} {n : Nat} (h : l.length ≤ n) : (strOfNums l).size ≤ n := by rw [strOfNums_size]; exact h
theorem varL_range {n : Int} (h1 : n ≤ 1000000000) : ∀ b ∈ varL n, 0 ≤ b ∧ b ≤ 255 := var7_bytes 4 _ (by omega)
theorem varsL_range : ∀ {l : List Int}, (∀ x ∈ l, 0 ≤ x ∧ x ≤ 1000000000) → ∀ b ∈ varsL l, 0 ≤ b ∧ b ≤ 255
  | [], _, b, hb => by cases hb
  | x :: l, h, b, hb => by
    simp only [varsL, List.mem_append] at hb
    rcases hb with hb | hb
    · exact varL_range (h x (by simp)).2 b hb
    · exact varsL_range (fun y hy => h y (by simp [hy])) b hb
theorem shortL_range {s : ByteArray} (h : s.size ≤ 20000) : ∀ b ∈ shortL s, 0 ≤ b ∧ b ≤ 255 := by
  intro b hb
  simp only [shortL, List.mem_append] at hb
  rcases hb with hb | hb
  · exact var7_bytes 4 _ (by omega) b hb
  · exact nums_range hb
theorem shortT_nums {s : ByteArray} (h : s.size ≤ 20000) : nums (shortT s) = shortL s := nums_str (shortL_range h)
/-- What a good mail is. -/
theorem mailOk_parts {m : Mail} (h : mailOk m = true) : (1 ≤ m.g ∧ m.g ≤ 9999) ∧ (1 ≤ m.u ∧ m.u ≤ 9999) ∧ m.fl.length = 3 ∧ (∀ r ∈ m.fl, (0 ≤ r.v ∧ r.v ≤ 1) ∧ (0 ≤ r.t ∧ r.t ≤ 100000) ∧ 0 ≤ r.b ∧ r.b ≤ 2) ∧ m.tx.size ≤ 60 := by
  simp only [mailOk, flagsOk, Bool.and_eq_true, isIn_iff, decide_eq_true_eq] at h
  obtain ⟨⟨⟨hg, hu⟩, hfa, hfl⟩, htx⟩ := h
  refine ⟨hg, hu, hfl, fun r hr => ?_, htx⟩
  have h := flagsAll_mem hfa r hr
  simp only [flagOk, regOk, stampOk, Bool.and_eq_true, isIn_iff, decide_eq_true_eq] at h
  exact ⟨⟨h.1.2.1, h.2⟩, h.1.1.1, h.1.1.2⟩
theorem three_ok {r : Reg} (h : (0 ≤ r.v ∧ r.v ≤ 1) ∧ (0 ≤ r.t ∧ r.t ≤ 100000) ∧ 0 ≤ r.b ∧ r.b ≤ 2) : ∀ x ∈ [r.v, r.t, r.b], 0 ≤ x ∧ x ≤ 1000000000 := by
  intro x hx
  simp only [List.mem_cons, List.not_mem_nil, or_false] at hx
  rcases hx with rfl | rfl | rfl <;> omega
theorem two_ok {g u : Int} (hg : 1 ≤ g ∧ g ≤ 9999) (hu : 1 ≤ u ∧ u ≤ 9999) : ∀ x ∈ [g, u], 0 ≤ x ∧ x ≤ 1000000000 := by
  intro x hx
  simp only [List.mem_cons, List.not_mem_nil, or_false] at hx
  rcases hx with rfl | rfl <;> omega
theorem varsL_len {l : List Int} (h : ∀ x ∈ l, 0 ≤ x ∧ x ≤ 1000000000) : (varsL l).length ≤ 5 * l.length := by
  induction l with
  | nil => simp [varsL]
  | cons x l ih =>
    have h1 := varL_len (h x (by simp)).2
    have h2 := ih fun y hy => h y (by simp [hy])
    simp only [varsL, List.length_append, List.length_cons]
    omega
set_option maxHeartbeats 2000000 in
set_option maxRecDepth 100000 in
theorem mailText_calls (w : World) (fv : Value) (m : Mail) (h : rdRegs w fv m.fl) (ht : m.tx.size ≤ 9223372036854775807) : Calls Try.prog 60 #[.agg #[.int .i64 m.g, .int .i64 m.u, fv, .string m.tx]] w fun e w' => e = .returned (.tuple #[.string (mailT m).1, .bool (mailT m).2]) ∧ Below w.heap.size w w' := by
  obtain ⟨A, c, rfl, _, hm⟩ := rd_len h
  have HR := Aside.mk h
  clear h
  rcases hk : mailOk m with _ | _
  · have HE : Aside (mailT m = (⟨#[]⟩, false)) := ⟨by unfold mailT; rw [hk]; rfl⟩
    have HK := Aside.mk hk
    clear hk
    go_enter Try.func60, Try.ntmps60
    go_wp2_with (fail)
    (have L0 := Aside.mk (Loc.new w #[.int .i64 m.g, .int .i64 m.u, .slice A m.fl.length c, .string m.tx] 58); have HB := Aside.mk (below_alloc (Below.refl _ w) (.cells #[.int .i64 m.g, .int .i64 m.u, .slice A m.fl.length c, .string m.tx] 58)); have l0 := L0.out.cells)
    go_wp2_with (fail)
    refine (mailOk_calls _ _ m (rdRegs_mov HB.out HR.out) ht).mono ?_
    rintro e w1 ⟨rfl, hb⟩
    rw [HK.out]
    replace L0 := Aside.mk (L0.out.below hb); replace HB := Aside.mk (below_step HB.out hb); clear l0 hb; have l0 := L0.out.cells
    go_wp2
    refine bodyPost_ret (v := .tuple #[.string ⟨#[]⟩, .bool false]) (by simp [results, go_sem]) rfl ⟨by rw [HE.out], HB.out⟩
  · have HE : Aside (mailT m = (strOfNums (mailL m), true)) := ⟨by unfold mailT; rw [hk]; rfl⟩
    have HP := Aside.mk (mailOk_parts hk)
    have HK := Aside.mk hk
    clear hk
    go_enter Try.func60, Try.ntmps60
    go_wp2_with (fail)
    (have L0 := Aside.mk (Loc.new w #[.int .i64 m.g, .int .i64 m.u, .slice A m.fl.length c, .string m.tx] 58); have HB := Aside.mk (below_alloc (Below.refl _ w) (.cells #[.int .i64 m.g, .int .i64 m.u, .slice A m.fl.length c, .string m.tx] 58)); have l0 := L0.out.cells)
    go_wp2_with (fail)
    refine (mailOk_calls _ _ m (rdRegs_mov HB.out HR.out) ht).mono ?_
    rintro e w1 ⟨rfl, hb⟩
    rw [HK.out]
    replace L0 := Aside.mk (L0.out.below hb); replace HB := Aside.mk (below_step HB.out hb); clear l0 hb; have l0 := L0.out.cells
    go_wp2_with (fail)
    refine (vars_calls _ _ _ [m.g, m.u] (rdInts_lit w1 _ rfl [m.g, m.u] (by simp) 3) (two_ok HP.out.1 HP.out.2.1) (by simp)).mono ?_
    rintro e w2 ⟨rfl, hb⟩
    replace L0 := Aside.mk ((L0.out.alloc (.cells #[.int .i64 m.g, .int .i64 m.u] 3)).below hb)
    replace HB := Aside.mk (below_step (below_alloc HB.out (.cells #[.int .i64 m.g, .int .i64 m.u] 3)) hb)
    clear l0 hb
    have l0 := L0.out.cells
    have HS : Aside (nums (strOfNums (varsL [m.g, m.u])) = varL m.g ++ varL m.u) := ⟨by rw [nums_str (varsL_range (two_ok HP.out.1 HP.out.2.1))]; simp [varsL]⟩
    have HZ : Aside ((strOfNums (varsL [m.g, m.u])).size ≤ 10) := ⟨str_size (varsL_len (two_ok HP.out.1 HP.out.2.1))⟩
    generalize strOfNums (varsL [m.g, m.u]) = s0 at HS HZ ⊢
    have h3 := HP.out.2.2.1
    have HL3 := Aside.mk h3
    clear h3
    go_wp2
    go_loopw [4, 19] (fun v4 v19 wr => ∃ (i : Nat) (s : ByteArray), i ≤ m.fl.length ∧ v4 = .string s ∧ v19 = .int .i64 i ∧ Aside (nums s = varL m.g ++ (varL m.u ++ regsL (m.fl.take i))) ∧ Aside (s.size ≤ 10 + 15 * i) ∧ Aside (Loc wr w.heap.size #[.int .i64 m.g, .int .i64 m.u, .slice A m.fl.length c, .string m.tx] 58) ∧ Aside (Below w.heap.size w wr)) (fun _ v19 _ => m.fl.length - (intOf v19).toNat)
    case atStart => exact ⟨0, s0, Nat.zero_le _, rfl, rfl, ⟨by rw [HS.out]; simp [regsL]⟩, HZ, L0, HB⟩
    case round =>
      clear HS HZ L0 HB l0
      obtain ⟨i, s, hi, rfl, rfl, HS, HZ, L0, HB⟩ := hrel
      have l0 := L0.out.cells
      rcases Nat.lt_or_ge i m.fl.length with hlt | hge
      · have hltI : (i : Int) < (m.fl.length : Int) := by omega
        obtain ⟨ad, hA, x0, x1, x2⟩ := rdRegs_at (rdRegs_mov HB.out HR.out) i hlt
        subst hA
        have HT := Aside.mk (List.take_succ_eq_append_getElem hlt)
        have HO := Aside.mk (HP.out.2.2.2.1 m.fl[i] (List.getElem_mem hlt))
        generalize m.fl[i] = r at x0 x1 x2 HT HO
        have hlit := rdInts_lit (wr.alloc (.cells #[.int .i64 r.v, .int .i64 r.t, .int .i64 r.b] 136)) (wr.heap.size + 1) (by simp) [r.v, r.t, r.b] (by simp) 3
        simp only [List.map_cons, List.map_nil] at hlit
        have HLIT := Aside.mk hlit
        clear hlit
        go_wp2_with (fail)
        refine (vars_calls _ _ _ [r.v, r.t, r.b] HLIT.out (three_ok HO.out) (by simp)).mono ?_
        rintro e w3 ⟨rfl, hb⟩
        replace L0 := Aside.mk (((L0.out.alloc (.cells #[.int .i64 r.v, .int .i64 r.t, .int .i64 r.b] 136)).alloc (.cells #[.int .i64 r.v, .int .i64 r.t, .int .i64 r.b] 3)).below hb)
        replace HB := Aside.mk (below_step (below_alloc (below_alloc HB.out (.cells #[.int .i64 r.v, .int .i64 r.t, .int .i64 r.b] 136)) (.cells #[.int .i64 r.v, .int .i64 r.t, .int .i64 r.b] 3)) hb)
        clear l0 hb x0 x1 x2
        have HS1 : nums (strOfNums (varsL [r.v, r.t, r.b])) = regL r := by rw [nums_str (varsL_range (three_ok HO.out))]; simp [varsL, regL]
        have hz1 : (strOfNums (varsL [r.v, r.t, r.b])).size ≤ 15 := str_size (varsL_len (three_ok HO.out))
        generalize strOfNums (varsL [r.v, r.t, r.b]) = s1 at HS1 hz1 ⊢
        have HI : Aside (i ≤ 3) := ⟨by have := HL3.out; omega⟩
        have h63 := big_app HZ.out hz1 (by have := HI.out; omega)
        have HS2 : Aside (nums (s ++ s1) = varL m.g ++ (varL m.u ++ regsL (m.fl.take (i + 1)))) := ⟨by
          rw [nums_app, HS.out, HS1, HT.out, regsL_app]
          simp [regsL]⟩
        have HZ2 : Aside ((s ++ s1).size ≤ 10 + 15 * (i + 1)) := ⟨by have := app_size HZ.out hz1; omega⟩
        clear HS HZ HS1 hz1
        go_wp2
        go_roundw
        case rel => exact ⟨i + 1, _, by omega, rfl, by go_num, HS2, HZ2, L0, HB⟩
        case measure => simp [intOf]; omega
      · have hgeI : ¬ ((i : Int) < (m.fl.length : Int)) := by omega
        have h60 := HP.out.2.2.2.2
        have HSS : Aside (nums s = varL m.g ++ (varL m.u ++ regsL m.fl)) := ⟨by rw [HS.out, List.take_of_length_le hge]⟩
        have hz2 := shortT_size (s := m.tx) (by omega)
        have h63 := big_app (n := 10 + 15 * i) (m := 65) HZ.out (t := shortT m.tx) (by omega) (by have := HL3.out; omega)
        have HF : Aside (s ++ shortT m.tx = strOfNums (mailL m)) := ⟨str_of_nums (by rw [nums_app, HSS.out, shortT_nums (by omega)]; simp [mailL])⟩
        clear HS HZ HSS hz2
        go_wp2_with (fail)
        refine (shortS_calls _ m.tx (by omega)).mono ?_
        rintro e w4 ⟨rfl, hb⟩
        replace HB := Aside.mk (below_step HB.out hb)
        clear hb l0
        go_wp2
        refine bodyPost_ret (v := .tuple #[.string (s ++ shortT m.tx), .bool true]) (by simp [results, go_sem]) rfl ⟨by rw [HE.out, HF.out], HB.out⟩
/-! A mail's text, by the reference: how long it may be (a draw's text): the walk. -/
theorem big_sz {s t : ByteArray} {n m : Nat} (hs : s.size ≤ n) (ht : t.size ≤ m) (h : n + m ≤ 9223372036854775807) : ¬ (9223372036854775807 < s.size + t.size) := by omega
set_option maxHeartbeats 2000000 in
set_option maxRecDepth 100000 in
theorem specMailText_calls (w : World) (fv : Value) (m : Mail) (h : rdRegs w fv m.fl) (ht : m.tx.size ≤ 9223372036854775807) : Calls Try.prog 144 #[.agg #[.int .i64 m.g, .int .i64 m.u, fv, .string m.tx]] w fun e w' => ∃ (s : ByteArray) (ok : Bool), e = .returned (.tuple #[.string s, .bool ok]) ∧ s.size ≤ 200 ∧ Below w.heap.size w w' := by
  obtain ⟨A, c, rfl, _, hm⟩ := rd_len h
  have HR := Aside.mk h
  clear h
  rcases hk : mailOk m with _ | _
  · have HK := Aside.mk hk
    clear hk
    go_enter Try.func144, Try.ntmps144
    go_wp2_with (fail)
    (have L0 := Aside.mk (Loc.new w #[.int .i64 m.g, .int .i64 m.u, .slice A m.fl.length c, .string m.tx] 58); have HB := Aside.mk (below_alloc (Below.refl _ w) (.cells #[.int .i64 m.g, .int .i64 m.u, .slice A m.fl.length c, .string m.tx] 58)); have l0 := L0.out.cells)
    go_wp2_with (fail)
    refine (specMailOk_calls _ _ m (rdRegs_mov HB.out HR.out) ht).mono ?_
    rintro e w1 ⟨rfl, hb⟩
    rw [HK.out]
    replace L0 := Aside.mk (L0.out.below hb); replace HB := Aside.mk (below_step HB.out hb); clear l0 hb; have l0 := L0.out.cells
    go_wp2
    refine bodyPost_ret (v := .tuple #[.string ⟨#[]⟩, .bool false]) (by simp [results, go_sem]) rfl ⟨_, _, rfl, by decide, HB.out⟩
  · have HP := Aside.mk (mailOk_parts hk)
    have HK := Aside.mk hk
    clear hk
    obtain ⟨mg, mu, l, tx⟩ := m
    dsimp only at HP HR hm ht ⊢
    obtain ⟨g, hg⟩ := Int.eq_ofNat_of_zero_le (show 0 ≤ mg by have := HP.out.1; omega)
    obtain ⟨u, hu⟩ := Int.eq_ofNat_of_zero_le (show 0 ≤ mu by have := HP.out.2.1; omega)
    subst hg hu
    have HGU : Aside (g ≤ 9999 ∧ u ≤ 9999 ∧ l.length = 3 ∧ tx.size ≤ 60) := ⟨by have := HP.out; omega⟩
    have HF : Aside (∀ r ∈ l, (0 ≤ r.v ∧ r.v ≤ 1) ∧ (0 ≤ r.t ∧ r.t ≤ 100000) ∧ 0 ≤ r.b ∧ r.b ≤ 2) := ⟨HP.out.2.2.2.1⟩
    clear HP
    obtain ⟨n, hn⟩ : ∃ n, l.length = n := ⟨_, rfl⟩
    rw [hn] at hm HR ⊢
    have HN := Aside.mk hn
    clear hn
    have z1 := varT_size (n := g) (by have := HGU.out; omega)
    have z2 := varT_size (n := u) (by have := HGU.out; omega)
    have b1 := big_app z1 z2 (by omega)
    have HZ0 : Aside ((varT g ++ varT u).size ≤ 10) := ⟨app_size z1 z2⟩
    clear z1 z2
    go_enter Try.func144, Try.ntmps144
    go_wp2_with (fail)
    (have L0 := Aside.mk (Loc.new w #[.int .i64 g, .int .i64 u, .slice A n c, .string tx] 58); have HB := Aside.mk (below_alloc (Below.refl _ w) (.cells #[.int .i64 g, .int .i64 u, .slice A n c, .string tx] 58)); have l0 := L0.out.cells)
    go_wp2_with (fail)
    refine (specMailOk_calls _ (.slice A n c) ⟨g, u, l, tx⟩ (rdRegs_mov HB.out HR.out) ht).mono ?_
    rintro e w1 ⟨rfl, hb⟩
    rw [HK.out]
    replace L0 := Aside.mk (L0.out.below hb); replace HB := Aside.mk (below_step HB.out hb); clear l0 hb; have l0 := L0.out.cells
    go_wp2
    refine zBegin (S := (fun w' => Loc w' w.heap.size #[.int .i64 g, .int .i64 u, .slice A n c, .string tx] 58 ∧ Aside (Below w.heap.size w w'))) (z := 8) (by kernel_rfl) (by exact ⟨L0.out.drew', ⟨below_drew HB.out⟩⟩) (fun hHeld => ?_)
    refine zT 0 9 hHeld ?_
    refine zT 1 10 hHeld ?_
    refine zT 3 12 hHeld ?_
    refine zT 4 13 hHeld ?_
    refine zReady (rs := [2]) (by kernel_rfl) (by simp) ?_
    refine zOne (by decide) rfl (fun K hK => ?_) zNil
    go_simp
    refine (l01Var_calls _ g (by have := HGU.out; omega)).mono ?_; rintro e w2 ⟨rfl, hb⟩
    refine hK.out _ _ (by exact ⟨hHeld.1.below hb, ⟨below_step hHeld.2.out hb⟩⟩) (fun hHeld => ?_)
    clear hK K
    (try simp only [Act.put, List.setIfInBounds_toArray, List.set_cons_zero, List.set_cons_succ])
    clear hb
    refine zReady (rs := [5]) (by kernel_rfl) (by simp) ?_
    refine zOne (by decide) rfl (fun K hK => ?_) zNil
    go_simp
    refine (l01Var_calls _ u (by have := HGU.out; omega)).mono ?_; rintro e w3 ⟨rfl, hb⟩
    refine hK.out _ _ (by exact ⟨hHeld.1.below hb, ⟨below_step hHeld.2.out hb⟩⟩) (fun hHeld => ?_)
    clear hK K
    (try simp only [Act.put, List.setIfInBounds_toArray, List.set_cons_zero, List.set_cons_succ])
    clear hb
    refine zT 6 15 hHeld ?_
    refine zT 7 4 hHeld ?_
    refine zDone (by kernel_rfl) ?_ _
    replace L0 := Aside.mk hHeld.1
    replace HB := hHeld.2
    clear hHeld l0 b1
    generalize varT g ++ varT u = s0 at HZ0 ⊢
    have l0 := L0.out.cells
    go_wp2
    go_loopw [4, 5] (fun v4 v5 wr => ∃ (i : Nat) (s : ByteArray), i ≤ n ∧ v4 = .string s ∧ v5 = .int .i64 i ∧ Aside (s.size ≤ 10 + 15 * i) ∧ Aside (Loc wr w.heap.size #[.int .i64 g, .int .i64 u, .slice A n c, .string tx] 58) ∧ Aside (Below w.heap.size w wr)) (fun _ v5 _ => n - (intOf v5).toNat)
    case atStart => exact ⟨0, s0, Nat.zero_le _, rfl, rfl, HZ0, L0, HB⟩
    case round =>
      clear HZ0 L0 HB l0
      obtain ⟨i, s, hi, rfl, rfl, HZ, L0, HB⟩ := hrel
      have l0 := L0.out.cells
      have HI : Aside (n = 3) := ⟨by have := HGU.out; have := HN.out; omega⟩
      rcases Nat.lt_or_ge i n with hlt | hge
      · have hltI : (i : Int) < (n : Int) := by omega
        have hil : i < l.length := by have := HN.out; omega
        obtain ⟨ad, hA, x0, x1, x2⟩ := rdRegs_at (rdRegs_mov HB.out HR.out) i hil
        subst hA
        obtain ⟨⟨v0, v1⟩, ⟨t0, t1⟩, r0, r1⟩ := HF.out l[i] (List.getElem_mem hil)
        generalize l[i] = r at x0 x1 x2 v0 v1 t0 t1 r0 r1
        obtain ⟨rv, rt, rb⟩ := r
        dsimp only at x0 x1 x2 v0 v1 t0 t1 r0 r1
        obtain ⟨v, rfl⟩ := Int.eq_ofNat_of_zero_le v0
        obtain ⟨t, rfl⟩ := Int.eq_ofNat_of_zero_le t0
        obtain ⟨b, rfl⟩ := Int.eq_ofNat_of_zero_le r0
        have zv := varT_size (n := v) (by omega)
        have zt := varT_size (n := t) (by omega)
        have zb := varT_size (n := b) (by omega)
        have h3 := HI.out
        have c1 := big_app HZ.out zv (by omega)
        have k1 := app_size HZ.out zv
        have c2 := big_app k1 zt (by omega)
        have k2 := app_size k1 zt
        have c3 := big_app k2 zb (by omega)
        rw [ByteArray.size_append] at c2
        rw [ByteArray.size_append, ByteArray.size_append] at c3
        have HZ2 : Aside ((s ++ varT v ++ varT t ++ varT b).size ≤ 10 + 15 * (i + 1)) := ⟨by have := app_size k2 zb; omega⟩
        have HV : Aside (v ≤ 9223372036854775807 ∧ t ≤ 9223372036854775807 ∧ b ≤ 9223372036854775807) := ⟨by omega⟩
        have q0 : (0 : Int) ≤ (i : Int) := by omega
        clear zv zt zb k1 k2 h3 v0 v1 t0 t1 r0 r1 hil
        go_wp2
        refine zBegin (S := (fun w' => Loc w' w.heap.size #[.int .i64 g, .int .i64 u, .slice (some ad) n c, .string tx] 58 ∧ Aside (Below w.heap.size w w') ∧ w'.cell? (ad.add (i * 3)) = some (.int .i64 v) ∧ w'.cell? ⟨(ad.add (i * 3)).block, (ad.add (i * 3)).off + 1, none⟩ = some (.int .i64 t) ∧ w'.cell? ⟨(ad.add (i * 3)).block, (ad.add (i * 3)).off + 2, none⟩ = some (.int .i64 b))) (z := 28) (by kernel_rfl) (by exact ⟨L0.out.drew', ⟨below_drew HB.out⟩, x0, x1, x2⟩) (fun hHeld => ?_)
        refine zT 0 23 hHeld ?_
        refine zT 1 24 hHeld ?_
        refine zT 2 25 hHeld ?_
        refine zT 3 26 hHeld ?_
        refine zT 4 27 hHeld ?_
        refine zT 5 28 hHeld ?_
        refine zT 6 29 hHeld ?_
        refine zT 9 32 hHeld ?_
        refine zT 10 33 hHeld ?_
        refine zT 11 34 hHeld ?_
        refine zT 12 35 hHeld ?_
        refine zT 13 36 hHeld ?_
        refine zT 14 37 hHeld ?_
        refine zT 15 38 hHeld ?_
        refine zT 18 41 hHeld ?_
        refine zT 19 42 hHeld ?_
        refine zT 20 43 hHeld ?_
        refine zT 21 44 hHeld ?_
        refine zT 22 45 hHeld ?_
        refine zT 23 46 hHeld ?_
        refine zT 24 47 hHeld ?_
        refine zReady (rs := [7]) (by kernel_rfl) (by simp) ?_
        refine zOne (by decide) rfl (fun K hK => ?_) zNil
        go_simp
        refine (l01Var_calls _ v HV.out.1).mono ?_; rintro e w2 ⟨rfl, hb⟩
        refine hK.out _ _ (by exact ⟨hHeld.1.below hb, ⟨below_step hHeld.2.1.out hb⟩, cell_b hb hHeld.2.2.1, cell_b hb hHeld.2.2.2.1, cell_b hb hHeld.2.2.2.2⟩) (fun hHeld => ?_)
        clear hK K
        (try simp only [Act.put, List.setIfInBounds_toArray, List.set_cons_zero, List.set_cons_succ])
        clear hb
        refine zT 8 31 hHeld ?_
        refine zReady (rs := [16]) (by kernel_rfl) (by simp) ?_
        refine zOne (by decide) rfl (fun K hK => ?_) zNil
        go_simp
        refine (l01Var_calls _ t HV.out.2.1).mono ?_; rintro e w3 ⟨rfl, hb⟩
        refine hK.out _ _ (by exact ⟨hHeld.1.below hb, ⟨below_step hHeld.2.1.out hb⟩, cell_b hb hHeld.2.2.1, cell_b hb hHeld.2.2.2.1, cell_b hb hHeld.2.2.2.2⟩) (fun hHeld => ?_)
        clear hK K
        (try simp only [Act.put, List.setIfInBounds_toArray, List.set_cons_zero, List.set_cons_succ])
        clear hb
        refine zT 17 40 hHeld ?_
        refine zReady (rs := [25]) (by kernel_rfl) (by simp) ?_
        refine zOne (by decide) rfl (fun K hK => ?_) zNil
        go_simp
        refine (l01Var_calls _ b HV.out.2.2).mono ?_; rintro e w4 ⟨rfl, hb⟩
        refine hK.out _ _ (by exact ⟨hHeld.1.below hb, ⟨below_step hHeld.2.1.out hb⟩, cell_b hb hHeld.2.2.1, cell_b hb hHeld.2.2.2.1, cell_b hb hHeld.2.2.2.2⟩) (fun hHeld => ?_)
        clear hK K
        (try simp only [Act.put, List.setIfInBounds_toArray, List.set_cons_zero, List.set_cons_succ])
        clear hb
        refine zT 26 49 hHeld ?_
        refine zT 27 4 hHeld ?_
        refine zDone (by kernel_rfl) ?_ _
        replace L0 := Aside.mk hHeld.1
        replace HB := hHeld.2.1
        clear hHeld l0 c1 c2 c3
        go_wp2
        go_roundw
        case rel => exact ⟨i + 1, _, by omega, rfl, by go_num, HZ2, L0, HB⟩
        case measure => simp [intOf]; omega
      · have hgeI : ¬ ((i : Int) < (n : Int)) := by omega
        have h60 : tx.size ≤ 60 := HGU.out.2.2.2
        have h3 := HI.out
        have zv := varT_size (n := tx.size) (by omega)
        have hs55 : s.size ≤ 55 := by have := HZ.out; omega
        have c1 := big_app hs55 zv (by omega)
        have k1 := app_size hs55 zv
        have c2 := big_app k1 h60 (by omega)
        have HF2 : Aside ((s ++ varT tx.size ++ tx).size ≤ 200) := ⟨by have := app_size k1 h60; omega⟩
        have HT : Aside (tx.size ≤ 9223372036854775807) := ⟨ht⟩
        rw [ByteArray.size_append] at c2
        clear zv k1 h60 hs55 h3 HZ
        go_wp2
        refine zBegin (S := (fun w' => Loc w' w.heap.size #[.int .i64 g, .int .i64 u, .slice A n c, .string tx] 58 ∧ Aside (Below w.heap.size w w'))) (z := 11) (by kernel_rfl) (by exact ⟨L0.out.drew', ⟨below_drew HB.out⟩⟩) (fun hHeld => ?_)
        refine zT 0 50 hHeld ?_
        refine zT 1 51 hHeld ?_
        refine zT 2 52 hHeld ?_
        refine zT 3 53 hHeld ?_
        refine zT 6 56 hHeld ?_
        refine zT 7 57 hHeld ?_
        refine zReady (rs := [4]) (by kernel_rfl) (by simp) ?_
        refine zOne (by decide) rfl (fun K hK => ?_) zNil
        go_simp
        refine (l01Var_calls _ tx.size HT.out).mono ?_; rintro e w2 ⟨rfl, hb⟩
        refine hK.out _ _ (by exact ⟨hHeld.1.below hb, ⟨below_step hHeld.2.out hb⟩⟩) (fun hHeld => ?_)
        clear hK K
        (try simp only [Act.put, List.setIfInBounds_toArray, List.set_cons_zero, List.set_cons_succ])
        clear hb
        refine zT 5 55 hHeld ?_
        refine zT 8 58 hHeld ?_
        refine zT 9 2 hHeld ?_
        refine zT 10 3 hHeld ?_
        refine zDone (by kernel_rfl) ?_ _
        replace HB := hHeld.2
        clear hHeld l0 c1 c2
        go_wp2
        refine bodyPost_ret (v := .tuple #[.string (s ++ varT tx.size ++ tx), .bool true]) (by simp [results, go_sem]) rfl ⟨_, _, rfl, HF2.out, HB.out⟩
/-! There and back between a mail and its text, as the statement asks it. No program in it. -/
theorem regsL_range : ∀ {l : List Reg}, (∀ r ∈ l, (0 ≤ r.v ∧ r.v ≤ 1) ∧ (0 ≤ r.t ∧ r.t ≤ 100000) ∧ 0 ≤ r.b ∧ r.b ≤ 2) → ∀ b ∈ regsL l, 0 ≤ b ∧ b ≤ 255
  | [], _, b, hb => by cases hb
  | x :: l, h, b, hb => by
    have hx := h x (by simp)
    simp only [regsL, regL, List.mem_append] at hb
    rcases hb with (hb | hb | hb) | hb
    · exact varL_range (by omega) b hb
    · exact varL_range (by omega) b hb
    · exact varL_range (by omega) b hb
    · exact regsL_range (fun y hy => h y (by simp [hy])) b hb
theorem regsL_len : ∀ {l : List Reg}, (∀ r ∈ l, (0 ≤ r.v ∧ r.v ≤ 1) ∧ (0 ≤ r.t ∧ r.t ≤ 100000) ∧ 0 ≤ r.b ∧ r.b ≤ 2) → (regsL l).length ≤ 15 * l.length
  | [], _ => by simp [regsL]
  | x :: l, h => by
    have hx := h x (by simp)
    have h1 := varL_len (n := x.v) (by omega)
    have h2 := varL_len (n := x.t) (by omega)
    have h3 := varL_len (n := x.b) (by omega)
    have h4 := regsL_len (l := l) (fun y hy => h y (by simp [hy]))
    simp only [regsL, regL, List.length_append, List.length_cons]
    omega
theorem mailL_range {m : Mail} (h : mailOk m = true) : ∀ b ∈ mailL m, 0 ≤ b ∧ b ≤ 255 := by
  obtain ⟨hg, hu, _, hr, ht⟩ := mailOk_parts h
  intro b hb
  simp only [mailL, List.mem_append] at hb
  rcases hb with hb | hb | hb | hb
  · exact varL_range (by omega) b hb
  · exact varL_range (by omega) b hb
  · exact regsL_range hr b hb
  · exact shortL_range (by omega) b hb
theorem mailL_len {m : Mail} (h : mailOk m = true) : (mailL m).length ≤ 200 := by
  obtain ⟨hg, hu, hl, hr, ht⟩ := mailOk_parts h
  have h1 := varL_len (n := m.g) (by omega)
  have h2 := varL_len (n := m.u) (by omega)
  have h3 := regsL_len hr
  have h4 : (shortL m.tx).length ≤ m.tx.size + 5 := by
    have := varL_len (n := (m.tx.size : Int)) (by omega)
    unfold varL at this
    rw [Int.toNat_natCast] at this
    unfold shortL
    rw [List.length_append, nums_len]
    omega
  simp only [mailL, List.length_append]
  omega
theorem mailT_size (m : Mail) : (mailT m).1.size ≤ 200 := by
  unfold mailT
  split
  · next h => rw [strOfNums_size]; exact mailL_len h
  · exact Nat.zero_le _
theorem mailT_ok (m : Mail) : (mailT m).2 = mailOk m := by
  unfold mailT
  split
  · next h => exact h.symm
  · next h =>
    have h2 : mailOk m = false := by simpa using h
    exact h2.symm
theorem mailT_nums {m : Mail} (h : mailOk m = true) : nums (mailT m).1 = mailL m := by
  unfold mailT
  rw [if_pos h]
  exact nums_str (mailL_range h)
/-- What is read from between two other texts. -/
theorem mail_round {m : Mail} {a t c : ByteArray} (h : mailT m = (t, true)) (ha : a.size = 2) : readMail (a ++ t ++ c) 2 = (m, 2 + (t.size : Int), true) := by
  have hok : mailOk m = true := by rw [← mailT_ok, h]
  have ht : nums t = mailL m := by rw [← mailT_nums hok, h]
  have hd : (nums (a ++ t ++ c)).drop 2 = mailL m ++ nums c := by
    rw [nums_app, nums_app, ht, List.append_assoc, ← ha, ← nums_len a, List.drop_left]
  have h1 := mail_back hok hd
  rw [← ht, nums_len] at h1
  rw [show (2 : Int) = ((2 : Nat) : Int) from rfl, h1]
  congr 2
/-- What was read is what its text begins with. -/
theorem mail_again {u : ByteArray} {p : Nat} {n : Int} {y : Mail} (h : readMail u (p : Int) = (y, n, true)) (hp : p ≤ u.size) :
    (mailT y).1.size ≤ (u.extract p u.size).size ∧ (((u.extract p u.size).extract 0 (mailT y).1.size).toList == (mailT y).1.toList) = true := by
  obtain ⟨hok, a, b, e1, e2, hd⟩ := mail_fwd h
  have e1 : a = p := by omega
  subst e1
  have ht := mailT_nums hok
  have hn : nums (u.extract a u.size) = mailL y ++ (nums u).drop b := by
    rw [nums_cut, hd, ← hd, List.take_of_length_le (by rw [List.length_drop, nums_len]; omega)]
  have hs : (mailT y).1.size = (mailL y).length := by rw [← nums_len, ht]
  refine ⟨?_, nums_toList ?_⟩
  · rw [← nums_len (u.extract a u.size), hn, List.length_append]
    omega
  · rw [nums_take, hn, hs, List.take_left, ht]
theorem readMail_tx (t : ByteArray) (p : Int) : (readMail t p).1.tx.size ≤ t.size := by
  unfold readMail
  split
  · exact Nat.zero_le _
  · exact mailS_tx t (p, false)
end Go.Proofs.Ytjfjpabfkembcaa.H
