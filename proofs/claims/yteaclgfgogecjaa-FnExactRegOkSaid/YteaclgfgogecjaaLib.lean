import Derived.Test.YteaclgfgogecjaaWWords
import Derived.Laws.BitsLemmas
namespace Go.Proofs.Yteaclgfgogecjaa.Lib
open Go.RowKit Go.Proofs.YteaclgfgogecjaaW.PrintWords

/-! ### numbers -/
theorem wrap_id {x : Int} (h0 : -9223372036854775808 ≤ x) (h1 : x ≤ 9223372036854775807) : wrap64 x = x := by
  unfold wrap64; omega
theorem tdiv_pos {x : Int} (h : 0 ≤ x) (b : Int) : Int.tdiv x b = x / b := Int.tdiv_eq_ediv_of_nonneg h
theorem tmod_pos {x : Int} (h : 0 ≤ x) (b : Int) : Int.tmod x b = x % b := Int.tmod_eq_emod_of_nonneg h
set_option linter.unusedVariables false
theorem wf64 {x : Int} (h : (Lit.int .i64 x).wf = true) : -9223372036854775808 ≤ x ∧ x ≤ 9223372036854775807 := by
  simp [Lit.wf, IntKind.min, IntKind.max, IntKind.bits, IntKind.signed] at h
  omega
theorem wf32 {x : Int} (h : (Lit.int .u32 x).wf = true) : 0 ≤ x ∧ x < 4294967296 := by
  simp [Lit.wf, IntKind.min, IntKind.max, IntKind.bits, IntKind.signed] at h
  omega
theorem wraps_i64 (n : Int) (h0 : 0 ≤ n) (h1 : n < 2 ^ 63) : IntKind.i64.wrap n = n := by rw [IntKind.wrap_i64]; omega
theorem wraps_u32 (n : Int) (h0 : 0 ≤ n) (h1 : n < 2 ^ 32) : IntKind.u32.wrap n = n := by rw [IntKind.wrap_u32]; omega
theorem and127 {x : Int} (h0 : 0 ≤ x) (h1 : x ≤ 9223372036854775807) : Go.bits .and .i64 x 127 = x % 128 :=
  bits_mask .i64 63 (by decide) wraps_i64 7 (by decide) x h0 (by omega)
theorem or128 {y : Int} (h0 : 0 ≤ y) (h1 : y < 128) : Go.bits .or .i64 y 128 = y + 128 := by
  obtain ⟨a, rfl⟩ := Int.eq_ofNat_of_zero_le h0
  have ha : a < 2 ^ 7 := by omega
  have h := (bits_nat .i64 63 (by decide) wraps_i64 a 128 (by omega) (by decide)).2
  have e : (a ||| 128 : Nat) = a + 128 := by
    rw [Nat.or_comm, show (128 : Nat) = 2 ^ 7 * 1 from rfl, ← Nat.two_pow_add_eq_or_of_lt ha 1]
    omega
  rw [e] at h
  exact h
theorem and1_u32 {x : Int} (h0 : 0 ≤ x) (h1 : x < 4294967296) : Go.bits .and .u32 x 1 = x % 2 :=
  bits_mask .u32 32 (by decide) wraps_u32 1 (by decide) x h0 (by omega)
theorem xor_range (x y : Int) : 0 ≤ Go.bits .xor .u32 x y ∧ Go.bits .xor .u32 x y < 4294967296 := by
  have e : ∃ n, Go.bits .xor .u32 x y = IntKind.u32.wrap n := ⟨_, rfl⟩
  obtain ⟨n, e⟩ := e
  rw [e, IntKind.wrap_u32]
  omega

/-! ### bytes -/
theorem bytes_drop (t : ByteArray) (i : Nat) (h : i < t.size) : (bytesOf t).drop i = bt t (i : Int) :: (bytesOf t).drop (i + 1) := by
  have hl : i < (bytesOf t).length := by rw [bytesOf_length]; exact h
  rw [List.drop_eq_getElem_cons hl]
  congr 1
  rw [← rd_bytesOf]
  simp [rd, List.getD_eq_getElem?_getD, List.getElem?_eq_getElem hl]
theorem bytes_end (t : ByteArray) : (bytesOf t).drop t.size = [] := by
  rw [List.drop_eq_nil_iff, bytesOf_length]
  exact Nat.le_refl _
theorem bytes_range {t : ByteArray} {b : Int} (h : b ∈ bytesOf t) : 0 ≤ b ∧ b ≤ 255 := by
  simp only [bytesOf, List.mem_map] at h
  obtain ⟨u, _, rfl⟩ := h
  have := u.toNat_lt
  omega

/-! ### sums -/
def sumStep (x : Int) : Int := if x % 2 = 1 then Go.bits .xor .u32 (x / 2) 3558460437 else x / 2
theorem sumStep_range {x : Int} (h0 : 0 ≤ x) (h1 : x < 4294967296) : 0 ≤ sumStep x ∧ sumStep x < 4294967296 := by
  unfold sumStep
  split
  · exact xor_range _ _
  · omega
def sumIter : Nat → Int → Int
  | 0, x => x
  | n + 1, x => sumIter n (sumStep x)
theorem sumIter_range (n : Nat) : ∀ x : Int, 0 ≤ x → x < 4294967296 → 0 ≤ sumIter n x ∧ sumIter n x < 4294967296 := by
  induction n with
  | zero => intro x h0 h1; exact ⟨h0, h1⟩
  | succ n ih =>
    intro x h0 h1
    obtain ⟨a, b⟩ := sumStep_range h0 h1
    exact ih _ a b
def sumByte (s b : Int) : Int := sumIter 8 (Go.bits .xor .u32 s b)
theorem sumByte_range (s b : Int) : 0 ≤ sumByte s b ∧ sumByte s b < 4294967296 :=
  sumIter_range 8 _ (xor_range s b).1 (xor_range s b).2
def sumL (s : Int) (l : List Int) : Int := l.foldl sumByte s
theorem sumL_range (l : List Int) : ∀ s : Int, 0 ≤ s → s < 4294967296 → 0 ≤ sumL s l ∧ sumL s l < 4294967296 := by
  induction l with
  | nil => intro s h0 h1; exact ⟨h0, h1⟩
  | cons b l ih => intro s _ _; exact ih _ (sumByte_range s b).1 (sumByte_range s b).2

/-! ### numbers in bytes -/
def var7 (n : Nat) : List Int := if h : n > 127 then ((n % 128 + 128 : Nat) : Int) :: var7 (n / 128) else [(n : Int)]
termination_by n
decreasing_by omega
theorem var7_big {n : Nat} (h : n > 127) : var7 n = ((n % 128 + 128 : Nat) : Int) :: var7 (n / 128) := by
  rw [var7, dif_pos h]
theorem var7_small {n : Nat} (h : ¬ n > 127) : var7 n = [(n : Int)] := by
  rw [var7, dif_neg h]
theorem var7_length (d : Nat) : ∀ n : Nat, n < 128 ^ (d + 1) → (var7 n).length ≤ d + 1 := by
  induction d with
  | zero =>
    intro n h
    rw [var7_small (by omega)]
    simp
  | succ d ih =>
    intro n h
    by_cases hb : n > 127
    · rw [var7_big hb]
      have h2 : n / 128 < 128 ^ (d + 1) := by
        apply Nat.div_lt_of_lt_mul
        rw [Nat.pow_succ] at h
        omega
      have h3 := ih _ h2
      simp only [List.length_cons]
      omega
    · rw [var7_small hb]
      simp

/-! ### values -/
def varTextV (a : Int) : ByteArray × Bool := if 0 ≤ a ∧ a ≤ 1000000000 then (strOfNums (var7 a.toNat), true) else ((⟨#[]⟩ : ByteArray), false)
def shortV (s : ByteArray) : ByteArray × Bool := if (s.size : Int) > 20000 then ((⟨#[]⟩ : ByteArray), false) else (strOfNums (var7 s.size) ++ s, true)
def figV (x : Int) : Int := if x < 10 then 48 + x else 87 + x
def dec (n : Nat) : List Int := if h : n = 0 then [] else dec (n / 10) ++ [((48 + n % 10 : Nat) : Int)]
termination_by n
decreasing_by omega
theorem dec_zero : dec 0 = [] := by rw [dec, dif_pos rfl]
theorem dec_pos {n : Nat} (h : n ≠ 0) : dec n = dec (n / 10) ++ [((48 + n % 10 : Nat) : Int)] := by rw [dec, dif_neg h]
theorem str_ext {a b : ByteArray} (h : a.data.toList = b.data.toList) : a = b := by
  cases a; cases b
  congr 1
  exact Array.toList_inj.mp h
theorem str_append_data (a b : ByteArray) : (a ++ b).data.toList = a.data.toList ++ b.data.toList := by
  rw [ByteArray.data_append, Array.toList_append]
theorem str_nil_append (a : ByteArray) : strOfNums [] ++ a = a := by
  apply str_ext
  rw [str_append_data]
  rfl
theorem str_append_nil (a : ByteArray) : a ++ (⟨#[]⟩ : ByteArray) = a := by
  apply str_ext
  rw [str_append_data]
  simp
theorem str_append_assoc (xs ys : List Int) (a : ByteArray) : strOfNums (xs ++ ys) ++ a = strOfNums xs ++ (strOfNums ys ++ a) := by
  apply str_ext
  rw [str_append_data, str_append_data, str_append_data, strOfNums_data, strOfNums_data, strOfNums_data]
  simp
def decV (a : Int) : ByteArray := if a = 0 then (⟨#[48]⟩ : ByteArray) else if a < 0 then (⟨#[45]⟩ : ByteArray) ++ strOfNums (dec a.natAbs) else strOfNums (dec a.natAbs)
theorem fig_cut (d : Nat) (h : d < 10) : (⟨#[48, 49, 50, 51, 52, 53, 54, 55, 56, 57, 97, 98, 99, 100, 101, 102]⟩ : ByteArray).extract ((d : Int)).toNat ((d : Int) + 1).toNat = strOfNums [((48 + d : Nat) : Int)] := by
  apply str_ext
  rcases (show d = 0 ∨ d = 1 ∨ d = 2 ∨ d = 3 ∨ d = 4 ∨ d = 5 ∨ d = 6 ∨ d = 7 ∨ d = 8 ∨ d = 9 by omega) with rfl | rfl | rfl | rfl | rfl | rfl | rfl | rfl | rfl | rfl <;> rfl
def nameByte (b : Int) : Bool := decide (97 ≤ b ∧ b ≤ 122) || decide (48 ≤ b ∧ b ≤ 57)
def nameV (t : ByteArray) : Bool := (bytesOf t).all nameByte && decide (1 ≤ (t.size : Int) ∧ (t.size : Int) ≤ 12)
def laterV (a b c d : Int) : Bool := if a = c then decide (b > d) else decide (a > c)
def stampV (a b : Int) : Bool := decide (0 ≤ a ∧ a ≤ 100000) && decide (0 ≤ b ∧ b ≤ 2)
def regV (a b c : Int) : Bool := stampV b c && decide (0 ≤ a ∧ a ≤ 1000000000)
end Go.Proofs.Yteaclgfgogecjaa.Lib
