import Derived.Test.YtjlffencbaifeaaLib7
namespace Go.Proofs.Ytjlffencbaifeaa.Lib
open Go.RowKit Go.Proofs.YtjlffencbaifeaaW.PrintWords
set_option linter.unusedVariables false
/-! ### there and back -/
theorem bo_str {l : List Int} (h : ∀ x ∈ l, 0 ≤ x ∧ x ≤ 255) : bytesOf (strOfNums l) = l := by
  unfold bytesOf
  rw [strOfNums_data, List.map_map]
  have : ∀ x ∈ l, ((fun b : UInt8 => (b.toNat : Int)) ∘ fun n : Int => UInt8.ofNat n.toNat) x = x := by
    intro x hx
    obtain ⟨h0, h1⟩ := h x hx
    simp only [Function.comp_apply, UInt8.toNat_ofNat']
    omega
  rw [List.map_congr_left this, List.map_id']
theorem bo_app (a b : ByteArray) : bytesOf (a ++ b) = bytesOf a ++ bytesOf b := by
  unfold bytesOf
  rw [str_append_data, List.map_append]
theorem data_bo (t : ByteArray) : t.data.toList = (bytesOf t).map (fun n => UInt8.ofNat n.toNat) := by
  unfold bytesOf
  rw [List.map_map]
  have : ∀ x ∈ t.data.toList, ((fun n : Int => UInt8.ofNat n.toNat) ∘ fun b : UInt8 => (b.toNat : Int)) x = x := by
    intro x _
    simp
  rw [List.map_congr_left this, List.map_id']
theorem str_bo (t : ByteArray) : strOfNums (bytesOf t) = t := by
  apply str_ext
  rw [strOfNums_data, ← data_bo]
theorem bo_drop (t : ByteArray) {i : Nat} {x : Int} {l : List Int} (h : (bytesOf t).drop i = x :: l) : i < t.size ∧ ((btN t i : Nat) : Int) = x ∧ (bytesOf t).drop (i + 1) = l := by
  have hi : i < t.size := by
    rcases Nat.lt_or_ge i t.size with h1 | h1
    · exact h1
    · rw [List.drop_eq_nil_of_le (by rw [bytesOf_length]; exact h1)] at h
      cases h
  rw [bytes_drop t i hi] at h
  injection h with h1 h2
  exact ⟨hi, by rw [← byte_at]; exact h1, h2⟩
theorem bo_cut (t : ByteArray) {i : Nat} {l r : List Int} (h : (bytesOf t).drop i = l ++ r) : t.extract i (i + l.length) = strOfNums l := by
  apply str_ext
  rw [strOfNums_data, ByteArray.data_extract, Array.toList_extract, data_bo t]
  simp only [List.extract_eq_take_drop, ← List.map_drop, ← List.map_take, h]
  rw [show i + l.length - i = l.length by omega, List.take_left]
theorem var7_pos (n : Nat) : 0 < (var7 n).length := by
  by_cases h : n > 127
  · rw [var7_big h]; simp
  · rw [var7_small h]; simp
theorem var7_bytes (d : Nat) : ∀ n : Nat, n < 128 ^ (d + 1) → ∀ x ∈ var7 n, 0 ≤ x ∧ x ≤ 255 := by
  induction d with
  | zero =>
    intro n h x hx
    rw [var7_small (by omega)] at hx
    simp at hx
    omega
  | succ d ih =>
    intro n h x hx
    by_cases hb : n > 127
    · rw [var7_big hb] at hx
      rcases List.mem_cons.1 hx with rfl | hx
      · omega
      · refine ih (n / 128) ?_ x hx
        apply Nat.div_lt_of_lt_mul
        rw [Nat.pow_succ] at h
        omega
    · rw [var7_small hb] at hx
      simp at hx
      omega
theorem readV_back (t : ByteArray) (a n : Nat) (hn : n ≤ 1000000000) (d : Nat) : ∀ (m i acc : Nat) (rest : List Int), (bytesOf t).drop (a + i) = var7 m ++ rest → (var7 m).length ≤ d → acc + m * 128 ^ i = n →
    t.extract a (a + i + (var7 m).length) = strOfNums (var7 n) → readV t a d i acc = ((n : Int), ((a + i + (var7 m).length : Nat) : Int), true) := by
  induction d with
  | zero =>
    intro m i acc rest _ hd
    have := var7_pos m
    omega
  | succ d ih =>
    intro m i acc rest h hd he hx
    unfold readV
    by_cases hb : m > 127
    · rw [var7_big hb] at h hd hx ⊢
      rw [List.cons_append] at h
      obtain ⟨h1, h2, h3⟩ := bo_drop t h
      have e2 : btN t (a + i) = m % 128 + 128 := by omega
      rw [if_pos h1, if_neg (by omega), e2]
      have e3 : (m % 128 + 128) % 128 = m % 128 := by omega
      rw [e3]
      simp only [List.length_cons] at hd hx ⊢
      have := ih (m / 128) (i + 1) (acc + m % 128 * 128 ^ i) rest h3 (by omega) (by
        rw [Nat.pow_succ, ← he, Nat.add_assoc, Nat.mul_comm (128 ^ i) 128, ← Nat.mul_assoc, ← Nat.add_mul]
        congr 2
        omega) (by rw [← hx]; congr 1; omega)
      rw [this]
      congr 2
      omega
    · rw [var7_small hb] at h hd hx ⊢
      rw [List.cons_append] at h
      obtain ⟨h1, h2, h3⟩ := bo_drop t h
      have e2 : btN t (a + i) = m := by omega
      rw [if_pos h1, if_pos (by omega), e2, Nat.mod_eq_of_lt (by omega), he, if_neg (by omega)]
      simp only [List.length_cons, List.length_nil, Nat.zero_add] at hx ⊢
      rw [hx, if_pos rfl]
theorem readVar_back (t : ByteArray) (a n : Nat) (hn : n ≤ 1000000000) (rest : List Int) (h : (bytesOf t).drop a = var7 n ++ rest) :
    readVarV t (a : Int) = ((n : Int), ((a + (var7 n).length : Nat) : Int), true) := by
  have hp := var7_pos n
  have hl : a ≤ t.size := by
    rcases Nat.lt_or_ge a t.size with h1 | h1
    · omega
    · rw [List.drop_eq_nil_of_le (by rw [bytesOf_length]; exact h1)] at h
      have := congrArg List.length h
      simp at this
      omega
  unfold readVarV
  rw [if_pos (by omega), Int.toNat_natCast]
  have := readV_back t a n hn 5 n 0 0 rest (by simpa using h) (var7_length 4 n (by omega)) (by omega) (by simpa using bo_cut t h)
  simpa using this
theorem readShort_back (u : ByteArray) (hu : (u.size : Int) ≤ 20000) : readShortV (strOfNums (var7 u.size) ++ u) 0 = (u, (((strOfNums (var7 u.size) ++ u).size : Nat) : Int), true) := by
  have hb : bytesOf (strOfNums (var7 u.size) ++ u) = var7 u.size ++ bytesOf u := by rw [bo_app, bo_str (var7_bytes 4 _ (by omega))]
  have e := readVar_back (strOfNums (var7 u.size) ++ u) 0 u.size (by omega) (bytesOf u) (by rw [hb, List.drop_zero])
  simp only [Nat.zero_add, Int.natCast_zero] at e
  have hs : (strOfNums (var7 u.size) ++ u).size = (var7 u.size).length + u.size := by rw [ByteArray.size_append, strOfNums_size]
  unfold readShortV
  rw [e]
  simp only [↓reduceIte]
  rw [if_neg (by omega), if_neg (by omega), show ((((var7 u.size).length : Nat) : Int) + (u.size : Int)).toNat = (var7 u.size).length + (bytesOf u).length by rw [bytesOf_length]; omega, Int.toNat_natCast,
    bo_cut (r := []) _ (by rw [hb, List.drop_left, List.append_nil]), str_bo, hs]
  simp
/-! figures -/
theorem dec_length (d : Nat) : ∀ n : Nat, n < 10 ^ d → (dec n).length ≤ d := by
  induction d with
  | zero =>
    intro n h
    obtain rfl : n = 0 := by simpa using h
    rw [dec_zero]; simp
  | succ d ih =>
    intro n h
    by_cases hz : n = 0
    · subst hz; rw [dec_zero]; simp
    · rw [dec_pos hz, List.length_append]
      have := ih (n / 10) (by apply Nat.div_lt_of_lt_mul; rw [Nat.pow_succ] at h; omega)
      simp
      omega
theorem dec_digits (d : Nat) : ∀ n : Nat, n < 10 ^ d → ∀ x ∈ dec n, 48 ≤ x ∧ x ≤ 57 := by
  induction d with
  | zero =>
    intro n h
    obtain rfl : n = 0 := by simpa using h
    rw [dec_zero]; simp
  | succ d ih =>
    intro n h x hx
    by_cases hz : n = 0
    · subst hz; rw [dec_zero] at hx; simp at hx
    · rw [dec_pos hz] at hx
      rcases List.mem_append.1 hx with hx | hx
      · exact ih (n / 10) (by apply Nat.div_lt_of_lt_mul; rw [Nat.pow_succ] at h; omega) x hx
      · simp only [List.mem_singleton] at hx
        omega
def decNum (acc : Nat) (l : List Int) : Nat := l.foldl (fun a x => 10 * a + (x.toNat - 48)) acc
theorem dec_num (d : Nat) : ∀ n : Nat, n < 10 ^ d → decNum 0 (dec n) = n := by
  induction d with
  | zero =>
    intro n h
    obtain rfl : n = 0 := by simpa using h
    rw [dec_zero]; rfl
  | succ d ih =>
    intro n h
    by_cases hz : n = 0
    · subst hz; rw [dec_zero]; rfl
    · rw [dec_pos hz]
      unfold decNum at ih ⊢
      rw [List.foldl_append, ih (n / 10) (by apply Nat.div_lt_of_lt_mul; rw [Nat.pow_succ] at h; omega)]
      simp only [List.foldl_cons, List.foldl_nil]
      omega
theorem readDec_digits (t : ByteArray) (l : List Int) : ∀ (i acc : Nat), (bytesOf t).drop i = l → (∀ x ∈ l, 48 ≤ x ∧ x ≤ 57) → readDec t l.length i acc = readDec t 0 (i + l.length) (decNum acc l) := by
  induction l with
  | nil => intro i acc _ _; rfl
  | cons x l ih =>
    intro i acc h hx
    obtain ⟨h1, h2, h3⟩ := bo_drop t h
    have hd := hx x List.mem_cons_self
    simp only [List.length_cons]
    have step : readDec t (l.length + 1) i acc = readDec t l.length (i + 1) (10 * acc + (btN t i - 48)) := by rw [readDec, if_neg (by omega)]
    rw [step, ih (i + 1) _ h3 (fun y hy => hx y (List.mem_cons_of_mem _ hy))]
    unfold decNum
    rw [List.foldl_cons, show x.toNat = btN t i by omega, show i + 1 + l.length = i + (l.length + 1) by omega]
theorem readDec_back (n : Nat) (hn : n ≤ 1000000000) : (decV (n : Int)).size ≤ 10 ∧ readDec (decV (n : Int)) (decV (n : Int)).size 0 0 = ((n : Int), true) := by
  by_cases hz : n = 0
  · subst hz
    have e : decV ((0 : Nat) : Int) = (⟨#[48]⟩ : ByteArray) := by unfold decV; rw [if_pos (by decide)]
    rw [e]
    refine ⟨by decide, ?_⟩
    have := readDec_digits (⟨#[48]⟩ : ByteArray) [48] 0 0 (by decide) (by simp)
    rw [show (⟨#[48]⟩ : ByteArray).size = [(48 : Int)].length from rfl, this]
    unfold readDec
    rw [if_neg (by decide), if_pos]
    · rfl
    · rw [show decNum 0 [48] = 0 from rfl, e]
  · have e : decV (n : Int) = strOfNums (dec n) := by unfold decV; rw [if_neg (by omega), if_neg (by omega), Int.natAbs_natCast]
    have hl := dec_length 10 n (by omega)
    have hd := dec_digits 10 n (by omega)
    rw [e, strOfNums_size]
    refine ⟨hl, ?_⟩
    rw [readDec_digits (strOfNums (dec n)) (dec n) 0 0 (by rw [List.drop_zero]; exact bo_str (fun x hx => by have := hd x hx; omega)) hd, dec_num 10 n (by omega)]
    unfold readDec
    rw [if_neg (by omega), e, if_pos rfl]
/-! Hex -/
theorem fig_val (n : Int) (h0 : 0 ≤ n) (h1 : n < 16) : 0 ≤ figV n ∧ figV n ≤ 255 ∧ valV (figV n).toNat = n := by
  unfold figV valV
  by_cases h : n < 10
  · rw [if_pos h, if_pos (by omega)]
    omega
  · rw [if_neg h, if_neg (by omega), if_pos (by omega)]
    omega
def hexL (l : List Int) : List Int := l.flatMap (fun x => [figV (x / 16), figV (x % 16)])
theorem hexL_cons (x : Int) (l : List Int) : hexL (x :: l) = figV (x / 16) :: figV (x % 16) :: hexL l := rfl
theorem hexL_length (l : List Int) : (hexL l).length = 2 * l.length := by
  induction l with
  | nil => rfl
  | cons x l ih => rw [hexL_cons]; simp [ih]; omega
theorem hexL_bytes (l : List Int) (h : ∀ x ∈ l, 0 ≤ x ∧ x ≤ 255) : ∀ x ∈ hexL l, 0 ≤ x ∧ x ≤ 255 := by
  induction l with
  | nil => intro x hx; cases hx
  | cons y l ih =>
    intro x hx
    rw [hexL_cons] at hx
    have hy := h y List.mem_cons_self
    rcases List.mem_cons.1 hx with rfl | hx
    · have := fig_val (y / 16) (by omega) (by omega); omega
    · rcases List.mem_cons.1 hx with rfl | hx
      · have := fig_val (y % 16) (by omega) (by omega); omega
      · exact ih (fun z hz => h z (List.mem_cons_of_mem _ hz)) x hx
theorem hexFrom_list (t : ByteArray) (d : Nat) : ∀ (acc : List Int) (i : Nat), i + d = t.size → hexFrom t d acc i = acc ++ hexL ((bytesOf t).drop i) := by
  induction d with
  | zero =>
    intro acc i hi
    rw [List.drop_eq_nil_of_le (by rw [bytesOf_length]; omega)]
    simp [hexFrom, hexL]
  | succ d ih =>
    intro acc i hi
    unfold hexFrom
    rw [ih _ (i + 1) (by omega), bytes_drop t i (by omega), hexL_cons, byte_at]
    simp
theorem unhex_back (u : ByteArray) (l : List Int) : ∀ (acc : List Int) (i : Nat), (bytesOf u).drop i = hexL l → (∀ x ∈ l, 0 ≤ x ∧ x ≤ 255) → unhexFrom u l.length acc i = (strOfNums (acc ++ l), true) := by
  induction l with
  | nil => intro acc i _ _; simp [unhexFrom]
  | cons x l ih =>
    intro acc i h hx
    rw [hexL_cons] at h
    obtain ⟨h1, h2, h3⟩ := bo_drop u h
    obtain ⟨h4, h5, h6⟩ := bo_drop u h3
    obtain ⟨hx0, hx1⟩ := hx x List.mem_cons_self
    obtain ⟨p0, p1, p2⟩ := fig_val (x / 16) (by omega) (by omega)
    obtain ⟨q0, q1, q2⟩ := fig_val (x % 16) (by omega) (by omega)
    have e1 : btN u i = (figV (x / 16)).toNat := by omega
    have e2 : btN u (i + 1) = (figV (x % 16)).toNat := by omega
    simp only [List.length_cons]
    unfold unhexFrom
    rw [e1, e2, p2, q2, if_neg (by omega), ih _ (i + 2) h6 (fun y hy => hx y (List.mem_cons_of_mem _ hy)), show 16 * (x / 16) + x % 16 = x by omega]
    simp
theorem hex_back (t : ByteArray) (ht : (t.size : Int) ≤ 20000) : unhexV (hexV t).1 = (t, true) := by
  have hb : ∀ x ∈ bytesOf t, 0 ≤ x ∧ x ≤ 255 := fun x hx => bytes_range hx
  have e : hexFrom t t.size [] 0 = hexL (bytesOf t) := by rw [hexFrom_list t t.size [] 0 (by omega)]; simp
  have hs : (strOfNums (hexL (bytesOf t))).size = 2 * t.size := by rw [strOfNums_size, hexL_length, bytesOf_length]
  have e1 : hexV t = (strOfNums (hexL (bytesOf t)), true) := by unfold hexV; rw [if_neg (by omega), e]
  rw [e1]
  unfold unhexV
  simp only
  rw [hs, if_neg (by omega), show 2 * t.size / 2 = (bytesOf t).length by rw [bytesOf_length]; omega, unhex_back _ (bytesOf t) [] 0 (by rw [List.drop_zero]; exact bo_str (hexL_bytes _ hb)) hb, List.nil_append, str_bo]
end Go.Proofs.Ytjlffencbaifeaa.Lib
