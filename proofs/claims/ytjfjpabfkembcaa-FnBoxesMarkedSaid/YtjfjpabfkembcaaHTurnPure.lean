/- Sums of bytes, on lists: one byte turned turns the sum. -/
import Derived.Laws.BitsLemmas
import Derived.Laws.BytesArg
import Derived.RowKit
namespace Go.Proofs.Ytjfjpabfkembcaa.H
open Go.RowKit
set_option linter.unusedVariables false
theorem xor_range (x y : Int) : 0 ≤ Go.bits .xor .u32 x y ∧ Go.bits .xor .u32 x y < 4294967296 := by
  have e : ∃ n, Go.bits .xor .u32 x y = IntKind.u32.wrap n := ⟨_, rfl⟩
  obtain ⟨n, e⟩ := e
  rw [e, IntKind.wrap_u32]
  omega
def sumStep (x : Int) : Int := if x % 2 = 1 then Go.bits .xor .u32 (x / 2) 3558460437 else x / 2
theorem sumStep_range {x : Int} (h0 : 0 ≤ x) (h1 : x < 4294967296) : 0 ≤ sumStep x ∧ sumStep x < 4294967296 := by
  unfold sumStep
  split
  · exact xor_range _ _
  · omega
def sumIter : Nat → Int → Int
  | 0, x => x
  | n + 1, x => sumIter n (sumStep x)
theorem sumIter_range (n : Nat) : ∀ x : Int, 0 ≤ x → x < 4294967296 → 0 ≤ sumIter n x ∧ sumIter n x < 4294967296 := by
  induction n with
  | zero => intro x h0 h1; exact ⟨h0, h1⟩
  | succ n ih =>
    intro x h0 h1
    obtain ⟨a, b⟩ := sumStep_range h0 h1
    exact ih _ a b
def sumByte (s b : Int) : Int := sumIter 8 (Go.bits .xor .u32 s b)
theorem sumByte_range (s b : Int) : 0 ≤ sumByte s b ∧ sumByte s b < 4294967296 :=
  sumIter_range 8 _ (xor_range s b).1 (xor_range s b).2
def sumL (s : Int) (l : List Int) : Int := l.foldl sumByte s
theorem sumL_range (l : List Int) : ∀ s : Int, 0 ≤ s → s < 4294967296 → 0 ≤ sumL s l ∧ sumL s l < 4294967296 := by
  induction l with
  | nil => intro s h0 h1; exact ⟨h0, h1⟩
  | cons b l ih => intro s _ _; exact ih _ (sumByte_range s b).1 (sumByte_range s b).2
-- new
theorem xor_nat (a b : Nat) (ha : a < 4294967296) (hb : b < 4294967296) : Go.bits .xor .u32 (a : Int) (b : Int) = ((a ^^^ b : Nat) : Int) := by
  have e : Go.bits .xor .u32 (a : Int) (b : Int) = IntKind.u32.wrap (((BitVec.ofInt 32 (a : Int) ^^^ BitVec.ofInt 32 (b : Int)).toNat : Nat) : Int) := rfl
  rw [e, BitVec.toNat_xor, BitVec.toNat_ofInt, BitVec.toNat_ofInt, IntKind.wrap_u32]
  have h : a ^^^ b < 2 ^ 32 := Nat.xor_lt_two_pow (by omega) (by omega)
  rw [show ((a : Int) % ((2 ^ 32 : Nat) : Int)).toNat = a by omega, show ((b : Int) % ((2 ^ 32 : Nat) : Int)).toNat = b by omega]
  omega
theorem xor_inj {x y c : Int} (hx : 0 ≤ x ∧ x < 4294967296) (hy : 0 ≤ y ∧ y < 4294967296) (hc : 0 ≤ c ∧ c < 4294967296) (h : Go.bits .xor .u32 x c = Go.bits .xor .u32 y c) : x = y := by
  obtain ⟨a, rfl⟩ := Int.eq_ofNat_of_zero_le hx.1
  obtain ⟨b, rfl⟩ := Int.eq_ofNat_of_zero_le hy.1
  obtain ⟨d, rfl⟩ := Int.eq_ofNat_of_zero_le hc.1
  rw [xor_nat a d (by omega) (by omega), xor_nat b d (by omega) (by omega)] at h
  have h := congrArg (· ^^^ d) (Int.ofNat.inj h)
  simp only [Nat.xor_assoc, Nat.xor_self, Nat.xor_zero] at h
  rw [h]
theorem xor_inj' {x y c : Int} (hx : 0 ≤ x ∧ x < 4294967296) (hy : 0 ≤ y ∧ y < 4294967296) (hc : 0 ≤ c ∧ c < 4294967296) (h : Go.bits .xor .u32 c x = Go.bits .xor .u32 c y) : x = y := by
  obtain ⟨a, rfl⟩ := Int.eq_ofNat_of_zero_le hx.1
  obtain ⟨b, rfl⟩ := Int.eq_ofNat_of_zero_le hy.1
  obtain ⟨d, rfl⟩ := Int.eq_ofNat_of_zero_le hc.1
  rw [xor_nat d a (by omega) (by omega), xor_nat d b (by omega) (by omega)] at h
  have h := congrArg (d ^^^ ·) (Int.ofNat.inj h)
  simp only [← Nat.xor_assoc, Nat.xor_self, Nat.zero_xor] at h
  rw [h]
theorem xor_top {x : Int} (h0 : 0 ≤ x) (h1 : x < 2147483648) : 2147483648 ≤ Go.bits .xor .u32 x 3558460437 := by
  obtain ⟨a, rfl⟩ := Int.eq_ofNat_of_zero_le h0
  have e := xor_nat a 3558460437 (by omega) (by decide)
  rw [show ((3558460437 : Nat) : Int) = 3558460437 from rfl] at e
  rw [e]
  have ht : (a ^^^ 3558460437).testBit 31 = true := by
    rw [Nat.testBit_xor, Nat.testBit_lt_two_pow (show a < 2 ^ 31 by omega)]
    decide
  have := Nat.ge_two_pow_of_testBit ht
  omega
theorem sumStep_inj {x y : Int} (hx : 0 ≤ x ∧ x < 4294967296) (hy : 0 ≤ y ∧ y < 4294967296) (h : sumStep x = sumStep y) : x = y := by
  unfold sumStep at h
  have tx := xor_top (x := x / 2) (by omega) (by omega)
  have ty := xor_top (x := y / 2) (by omega) (by omega)
  by_cases h1 : x % 2 = 1 <;> by_cases h2 : y % 2 = 1
  · rw [if_pos h1, if_pos h2] at h
    have := xor_inj (by omega) (by omega) (by decide) h
    omega
  · rw [if_pos h1, if_neg h2] at h; omega
  · rw [if_neg h1, if_pos h2] at h; omega
  · rw [if_neg h1, if_neg h2] at h; omega
theorem sumIter_inj : ∀ (n : Nat) {x y : Int}, 0 ≤ x ∧ x < 4294967296 → 0 ≤ y ∧ y < 4294967296 → sumIter n x = sumIter n y → x = y
  | 0, _, _, _, _, h => h
  | n + 1, _, _, hx, hy, h => sumStep_inj hx hy (sumIter_inj n (sumStep_range hx.1 hx.2) (sumStep_range hy.1 hy.2) h)
theorem sumByte_inj {s t b : Int} (hs : 0 ≤ s ∧ s < 4294967296) (ht : 0 ≤ t ∧ t < 4294967296) (hb : 0 ≤ b ∧ b ≤ 255) (h : sumByte s b = sumByte t b) : s = t :=
  xor_inj hs ht (by omega) (sumIter_inj 8 (xor_range _ _) (xor_range _ _) h)
theorem sumByte_inj' {s b c : Int} (hs : 0 ≤ s ∧ s < 4294967296) (hb : 0 ≤ b ∧ b ≤ 255) (hc : 0 ≤ c ∧ c ≤ 255) (h : sumByte s b = sumByte s c) : b = c :=
  xor_inj' (by omega) (by omega) hs (sumIter_inj 8 (xor_range _ _) (xor_range _ _) h)
theorem sumL_inj : ∀ (l : List Int) {s t : Int}, (∀ b ∈ l, 0 ≤ b ∧ b ≤ 255) → 0 ≤ s ∧ s < 4294967296 → 0 ≤ t ∧ t < 4294967296 → sumL s l = sumL t l → s = t
  | [], _, _, _, _, _, h => h
  | b :: l, s, t, hl, hs, ht, h => sumByte_inj hs ht (hl b (by simp)) (sumL_inj l (fun x hx => hl x (by simp [hx])) (sumByte_range s b) (sumByte_range t b) h)
theorem sumL_app (s : Int) (a b : List Int) : sumL s (a ++ b) = sumL (sumL s a) b := by unfold sumL; rw [List.foldl_append]
/-- One byte turned turns the sum. -/
theorem sumL_set {s : Int} {l : List Int} {i : Nat} {c : Int} (hs : 0 ≤ s ∧ s < 4294967296) (hl : ∀ b ∈ l, 0 ≤ b ∧ b ≤ 255) (hi : i < l.length) (hc : 0 ≤ c ∧ c ≤ 255) (hne : c ≠ l[i]) : sumL s (l.set i c) ≠ sumL s l := by
  have e1 : l = l.take i ++ l[i] :: l.drop (i + 1) := by rw [← List.drop_eq_getElem_cons hi, List.take_append_drop]
  have e2 : l.set i c = l.take i ++ c :: l.drop (i + 1) := by rw [List.set_eq_take_append_cons_drop, if_pos hi]
  rw [e2]
  intro h
  conv at h => rhs; rw [e1]
  rw [sumL_app, sumL_app] at h
  have hr := sumL_range (l.take i) s hs.1 hs.2
  generalize sumL s (l.take i) = q at h hr
  have hd : ∀ b ∈ l.drop (i + 1), 0 ≤ b ∧ b ≤ 255 := fun b hb => hl b (List.mem_of_mem_drop hb)
  have := sumL_inj (l.drop (i + 1)) hd (sumByte_range q c) (sumByte_range q l[i]) h
  exact hne (sumByte_inj' hr hc (hl _ (List.getElem_mem hi)) this)

/-- A text's bytes, as numbers. -/
def nums (t : ByteArray) : List Int := t.data.toList.map fun b => (b.toNat : Int)
theorem nums_len (t : ByteArray) : (nums t).length = t.size := by unfold nums; rw [List.length_map, Array.length_toList]; rfl
theorem nums_at (t : ByteArray) (i : Nat) (h : i < t.size) : (nums t)[i]'(by rw [nums_len]; exact h) = (t[i].toNat : Int) := by
  unfold nums
  rw [List.getElem_map]
  rfl
theorem nums_drop (t : ByteArray) (i : Nat) (h : i < t.size) : (nums t).drop i = (t[i].toNat : Int) :: (nums t).drop (i + 1) := by
  rw [List.drop_eq_getElem_cons (by rw [nums_len]; exact h), nums_at t i h]
theorem nums_end (t : ByteArray) (i : Nat) (h : t.size ≤ i) : (nums t).drop i = [] := by rw [List.drop_eq_nil_iff, nums_len]; exact h
theorem nums_range {t : ByteArray} {b : Int} (h : b ∈ nums t) : 0 ≤ b ∧ b ≤ 255 := by
  simp only [nums, List.mem_map] at h
  obtain ⟨u, _, rfl⟩ := h
  have := u.toNat_lt
  omega
theorem nums_app (a b : ByteArray) : nums (a ++ b) = nums a ++ nums b := by
  unfold nums
  rw [ByteArray.data_append, Array.toList_append, List.map_append]
theorem nums_take (t : ByteArray) (n : Nat) : nums (t.extract 0 n) = (nums t).take n := by
  unfold nums
  rw [ByteArray.data_extract, Array.toList_extract, List.extract_eq_take_drop, List.drop_zero, Nat.sub_zero, List.map_take]
theorem nums_str {l : List Int} (h : ∀ b ∈ l, 0 ≤ b ∧ b ≤ 255) : nums (strOfNums l) = l := by
  unfold nums
  rw [strOfNums_data, List.map_map]
  refine (List.map_congr_left fun b hb => ?_).trans (List.map_id l)
  obtain ⟨h0, h1⟩ := h b hb
  simp only [Function.comp, id, UInt8.toNat_ofNat']
  omega
theorem str_nums (t : ByteArray) : strOfNums (nums t) = t := by
  have e : (strOfNums (nums t)).data.toList = t.data.toList := by
    rw [strOfNums_data, nums, List.map_map]
    refine (List.map_congr_left fun b _ => ?_).trans (List.map_id _)
    simp [Function.comp]
  cases t with | mk d => 
  generalize strOfNums (nums ⟨d⟩) = q at e
  cases q with | mk c =>
  congr 1
  exact Array.toList_inj.1 e
theorem nums_inj {a b : ByteArray} (h : nums a = nums b) : a = b := by rw [← str_nums a, h, str_nums]
/-! ### four bytes -/
def fourL (s : Int) : List Int := [(s / 16777216) % 256, (s / 65536) % 256, (s / 256) % 256, s % 256]
def fourT (s : Int) : ByteArray := strOfNums (fourL s)
theorem fourL_range (s : Int) : ∀ b ∈ fourL s, 0 ≤ b ∧ b ≤ 255 := by
  intro b hb
  simp only [fourL, List.mem_cons, List.not_mem_nil, or_false] at hb
  rcases hb with rfl | rfl | rfl | rfl <;> omega
theorem fourT_nums (s : Int) : nums (fourT s) = fourL s := nums_str (fourL_range s)
theorem fourT_size (s : Int) : (fourT s).size = 4 := by rw [fourT, strOfNums_size]; rfl
/-- The number in four bytes. -/
def fourOf : List Int → Int
  | a :: b :: c :: d :: _ => a * 16777216 + b * 65536 + c * 256 + d
  | _ => 0
theorem fourOf_four {s : Int} (h0 : 0 ≤ s) (h1 : s < 4294967296) : fourOf (fourL s) = s := by
  simp only [fourL, fourOf]
  omega
def sum0 (l : List Int) : Int := sumL 4294967295 l
theorem sum0_range (l : List Int) : 0 ≤ sum0 l ∧ sum0 l < 4294967296 := sumL_range l _ (by decide) (by decide)
def sealedT (t : ByteArray) : ByteArray := t ++ fourT (sum0 (nums t))
theorem sealedT_size (t : ByteArray) : (sealedT t).size = t.size + 4 := by rw [sealedT, ByteArray.size_append, fourT_size]
theorem sealedT_nums (t : ByteArray) : nums (sealedT t) = nums t ++ fourL (sum0 (nums t)) := by rw [sealedT, nums_app, fourT_nums]
/-- What is unsealed of a text of n bytes and four. -/
def unsealedT (t : ByteArray) (n : Nat) : ByteArray × Bool := if sum0 ((nums t).take n) = fourOf ((nums t).drop n) then (t.extract 0 n, true) else (⟨#[]⟩, false)
theorem unsealed_sealed (t : ByteArray) : unsealedT (sealedT t) t.size = (t, true) := by
  have hl := nums_len t
  unfold unsealedT
  rw [sealedT_nums, List.take_left' hl, List.drop_left' hl, fourOf_four (sum0_range _).1 (sum0_range _).2, if_pos rfl]
  congr 1
  apply nums_inj
  rw [nums_take, sealedT_nums, List.take_left' hl]
theorem set_ne_four {l : List Int} {i : Nat} {c : Int} (hl : ∀ b ∈ l, 0 ≤ b ∧ b ≤ 255) (h4 : l.length = 4) (hi : i < l.length) (hc : 0 ≤ c ∧ c ≤ 255) (hne : c ≠ l[i]) : fourOf (l.set i c) ≠ fourOf l := by
  match l, h4 with
  | [a, b, d, e], _ =>
    have ha := hl a (by simp)
    have hb := hl b (by simp)
    have hd := hl d (by simp)
    have he := hl e (by simp)
    match i, hi with
    | 0, _ => simp [fourOf] at hne ⊢; omega
    | 1, _ => simp [fourOf] at hne ⊢; omega
    | 2, _ => simp [fourOf] at hne ⊢; omega
    | 3, _ => simp [fourOf] at hne ⊢; omega
/-- A sealed text, one byte of it turned, is not unsealed. -/
theorem unsealed_turned (t u : ByteArray) (i : Nat) (c : Int) (hi : i < t.size + 4) (hc : 0 ≤ c ∧ c ≤ 255) (hne : c ≠ (nums (sealedT t))[i]'(by rw [nums_len, sealedT_size]; exact hi))
    (hu : nums u = (nums (sealedT t)).set i c) : unsealedT u t.size = (⟨#[]⟩, false) := by
  have hl := nums_len t
  have hs := sum0_range (nums t)
  have hfl : (fourL (sum0 (nums t))).length = 4 := rfl
  unfold unsealedT
  rw [if_neg]
  rw [hu]
  have e := sealedT_nums t
  rcases Nat.lt_or_ge i t.size with h | h
  · have e1 : (nums (sealedT t)).set i c = (nums t).set i c ++ fourL (sum0 (nums t)) := by rw [e, List.set_append_left _ _ (by omega)]
    have e2 : (nums (sealedT t))[i]'(by rw [nums_len, sealedT_size]; exact hi) = (nums t)[i]'(by omega) := by
      rw [List.getElem_of_eq e, List.getElem_append_left]
    rw [e2] at hne
    have hl2 : ((nums t).set i c).length = t.size := by rw [List.length_set, hl]
    rw [e1, List.take_left' hl2, List.drop_left' hl2, fourOf_four hs.1 hs.2]
    exact sumL_set (by decide) (fun b hb => nums_range hb) (by omega) hc hne
  · have e1 : (nums (sealedT t)).set i c = nums t ++ (fourL (sum0 (nums t))).set (i - t.size) c := by rw [e, List.set_append_right _ _ (by omega), hl]
    have e2 : (nums (sealedT t))[i]'(by rw [nums_len, sealedT_size]; exact hi) = (fourL (sum0 (nums t)))[i - t.size]'(by rw [hfl]; omega) := by
      rw [List.getElem_of_eq e, List.getElem_append_right (by omega)]
      simp only [hl]
    rw [e2] at hne
    rw [e1, List.take_left' hl, List.drop_left' hl]
    have h4 := set_ne_four (fourL_range (sum0 (nums t))) hfl (i := i - t.size) (by rw [hfl]; omega) hc hne
    rw [fourOf_four hs.1 hs.2] at h4
    exact fun h => h4 h.symm
theorem sum0_more (a b : List Int) : sumL (sum0 a) b = sum0 (a ++ b) := (sumL_app _ a b).symm
end Go.Proofs.Ytjfjpabfkembcaa.H
