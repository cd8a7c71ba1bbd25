import Derived.Test.YtjlffencbaifeaaWMore
import Derived.Laws.BitsLemmas
namespace Go.Proofs.Ytjlffencbaifeaa.Lib
open Go.RowKit Go.Proofs.YtjlffencbaifeaaW.PrintWords

/-! ### numbers -/
theorem wrap_id {x : Int} (h0 : -9223372036854775808 ≤ x) (h1 : x ≤ 9223372036854775807) : wrap64 x = x := by
  unfold wrap64; omega
theorem tdiv_pos {x : Int} (h : 0 ≤ x) (b : Int) : Int.tdiv x b = x / b := Int.tdiv_eq_ediv_of_nonneg h
theorem tmod_pos {x : Int} (h : 0 ≤ x) (b : Int) : Int.tmod x b = x % b := Int.tmod_eq_emod_of_nonneg h
set_option linter.unusedVariables false
theorem wf64 {x : Int} (h : (Lit.int .i64 x).wf = true) : -9223372036854775808 ≤ x ∧ x ≤ 9223372036854775807 := by
  simp [Lit.wf, IntKind.min, IntKind.max, IntKind.bits, IntKind.signed] at h
  omega
theorem wf32 {x : Int} (h : (Lit.int .u32 x).wf = true) : 0 ≤ x ∧ x < 4294967296 := by
  simp [Lit.wf, IntKind.min, IntKind.max, IntKind.bits, IntKind.signed] at h
  omega
theorem wraps_i64 (n : Int) (h0 : 0 ≤ n) (h1 : n < 2 ^ 63) : IntKind.i64.wrap n = n := by rw [IntKind.wrap_i64]; omega
theorem wraps_u32 (n : Int) (h0 : 0 ≤ n) (h1 : n < 2 ^ 32) : IntKind.u32.wrap n = n := by rw [IntKind.wrap_u32]; omega
theorem and127 {x : Int} (h0 : 0 ≤ x) (h1 : x ≤ 9223372036854775807) : Go.bits .and .i64 x 127 = x % 128 :=
  bits_mask .i64 63 (by decide) wraps_i64 7 (by decide) x h0 (by omega)
theorem or128 {y : Int} (h0 : 0 ≤ y) (h1 : y < 128) : Go.bits .or .i64 y 128 = y + 128 := by
  obtain ⟨a, rfl⟩ := Int.eq_ofNat_of_zero_le h0
  have ha : a < 2 ^ 7 := by omega
  have h := (bits_nat .i64 63 (by decide) wraps_i64 a 128 (by omega) (by decide)).2
  have e : (a ||| 128 : Nat) = a + 128 := by
    rw [Nat.or_comm, show (128 : Nat) = 2 ^ 7 * 1 from rfl, ← Nat.two_pow_add_eq_or_of_lt ha 1]
    omega
  rw [e] at h
  exact h
theorem and1_u32 {x : Int} (h0 : 0 ≤ x) (h1 : x < 4294967296) : Go.bits .and .u32 x 1 = x % 2 :=
  bits_mask .u32 32 (by decide) wraps_u32 1 (by decide) x h0 (by omega)
theorem xor_range (x y : Int) : 0 ≤ Go.bits .xor .u32 x y ∧ Go.bits .xor .u32 x y < 4294967296 := by
  have e : ∃ n, Go.bits .xor .u32 x y = IntKind.u32.wrap n := ⟨_, rfl⟩
  obtain ⟨n, e⟩ := e
  rw [e, IntKind.wrap_u32]
  omega

/-! ### bytes -/
theorem bytes_drop (t : ByteArray) (i : Nat) (h : i < t.size) : (bytesOf t).drop i = bt t (i : Int) :: (bytesOf t).drop (i + 1) := by
  have hl : i < (bytesOf t).length := by rw [bytesOf_length]; exact h
  rw [List.drop_eq_getElem_cons hl]
  congr 1
  rw [← rd_bytesOf]
  simp [rd, List.getD_eq_getElem?_getD, List.getElem?_eq_getElem hl]
theorem bytes_end (t : ByteArray) : (bytesOf t).drop t.size = [] := by
  rw [List.drop_eq_nil_iff, bytesOf_length]
  exact Nat.le_refl _
theorem bytes_range {t : ByteArray} {b : Int} (h : b ∈ bytesOf t) : 0 ≤ b ∧ b ≤ 255 := by
  simp only [bytesOf, List.mem_map] at h
  obtain ⟨u, _, rfl⟩ := h
  have := u.toNat_lt
  omega

/-! ### sums -/
def sumStep (x : Int) : Int := if x % 2 = 1 then Go.bits .xor .u32 (x / 2) 3558460437 else x / 2
theorem sumStep_range {x : Int} (h0 : 0 ≤ x) (h1 : x < 4294967296) : 0 ≤ sumStep x ∧ sumStep x < 4294967296 := by
  unfold sumStep
  split
  · exact xor_range _ _
  · omega
def sumIter : Nat → Int → Int
  | 0, x => x
  | n + 1, x => sumIter n (sumStep x)
theorem sumIter_range (n : Nat) : ∀ x : Int, 0 ≤ x → x < 4294967296 → 0 ≤ sumIter n x ∧ sumIter n x < 4294967296 := by
  induction n with
  | zero => intro x h0 h1; exact ⟨h0, h1⟩
  | succ n ih =>
    intro x h0 h1
    obtain ⟨a, b⟩ := sumStep_range h0 h1
    exact ih _ a b
def sumByte (s b : Int) : Int := sumIter 8 (Go.bits .xor .u32 s b)
theorem sumByte_range (s b : Int) : 0 ≤ sumByte s b ∧ sumByte s b < 4294967296 :=
  sumIter_range 8 _ (xor_range s b).1 (xor_range s b).2
def sumL (s : Int) (l : List Int) : Int := l.foldl sumByte s
theorem sumL_range (l : List Int) : ∀ s : Int, 0 ≤ s → s < 4294967296 → 0 ≤ sumL s l ∧ sumL s l < 4294967296 := by
  induction l with
  | nil => intro s h0 h1; exact ⟨h0, h1⟩
  | cons b l ih => intro s _ _; exact ih _ (sumByte_range s b).1 (sumByte_range s b).2

/-! ### numbers in bytes -/
def var7 (n : Nat) : List Int := if h : n > 127 then ((n % 128 + 128 : Nat) : Int) :: var7 (n / 128) else [(n : Int)]
termination_by n
decreasing_by omega
theorem var7_big {n : Nat} (h : n > 127) : var7 n = ((n % 128 + 128 : Nat) : Int) :: var7 (n / 128) := by
  rw [var7, dif_pos h]
theorem var7_small {n : Nat} (h : ¬ n > 127) : var7 n = [(n : Int)] := by
  rw [var7, dif_neg h]
theorem var7_length (d : Nat) : ∀ n : Nat, n < 128 ^ (d + 1) → (var7 n).length ≤ d + 1 := by
  induction d with
  | zero =>
    intro n h
    rw [var7_small (by omega)]
    simp
  | succ d ih =>
    intro n h
    by_cases hb : n > 127
    · rw [var7_big hb]
      have h2 : n / 128 < 128 ^ (d + 1) := by
        apply Nat.div_lt_of_lt_mul
        rw [Nat.pow_succ] at h
        omega
      have h3 := ih _ h2
      simp only [List.length_cons]
      omega
    · rw [var7_small hb]
      simp

/-! ### values -/
def varTextV (a : Int) : ByteArray × Bool := if 0 ≤ a ∧ a ≤ 1000000000 then (strOfNums (var7 a.toNat), true) else ((⟨#[]⟩ : ByteArray), false)
def shortV (s : ByteArray) : ByteArray × Bool := if (s.size : Int) > 20000 then ((⟨#[]⟩ : ByteArray), false) else (strOfNums (var7 s.size) ++ s, true)
def figV (x : Int) : Int := if x < 10 then 48 + x else 87 + x
def dec (n : Nat) : List Int := if h : n = 0 then [] else dec (n / 10) ++ [((48 + n % 10 : Nat) : Int)]
termination_by n
decreasing_by omega
theorem dec_zero : dec 0 = [] := by rw [dec, dif_pos rfl]
theorem dec_pos {n : Nat} (h : n ≠ 0) : dec n = dec (n / 10) ++ [((48 + n % 10 : Nat) : Int)] := by rw [dec, dif_neg h]
theorem str_ext {a b : ByteArray} (h : a.data.toList = b.data.toList) : a = b := by
  cases a; cases b
  congr 1
  exact Array.toList_inj.mp h
theorem str_append_data (a b : ByteArray) : (a ++ b).data.toList = a.data.toList ++ b.data.toList := by
  rw [ByteArray.data_append, Array.toList_append]
theorem str_nil_append (a : ByteArray) : strOfNums [] ++ a = a := by
  apply str_ext
  rw [str_append_data]
  rfl
theorem str_append_nil (a : ByteArray) : a ++ (⟨#[]⟩ : ByteArray) = a := by
  apply str_ext
  rw [str_append_data]
  simp
theorem str_append_assoc (xs ys : List Int) (a : ByteArray) : strOfNums (xs ++ ys) ++ a = strOfNums xs ++ (strOfNums ys ++ a) := by
  apply str_ext
  rw [str_append_data, str_append_data, str_append_data, strOfNums_data, strOfNums_data, strOfNums_data]
  simp
def decV (a : Int) : ByteArray := if a = 0 then (⟨#[48]⟩ : ByteArray) else if a < 0 then (⟨#[45]⟩ : ByteArray) ++ strOfNums (dec a.natAbs) else strOfNums (dec a.natAbs)
theorem fig_cut (d : Nat) (h : d < 10) : (⟨#[48, 49, 50, 51, 52, 53, 54, 55, 56, 57, 97, 98, 99, 100, 101, 102]⟩ : ByteArray).extract ((d : Int)).toNat ((d : Int) + 1).toNat = strOfNums [((48 + d : Nat) : Int)] := by
  apply str_ext
  rcases (show d = 0 ∨ d = 1 ∨ d = 2 ∨ d = 3 ∨ d = 4 ∨ d = 5 ∨ d = 6 ∨ d = 7 ∨ d = 8 ∨ d = 9 by omega) with rfl | rfl | rfl | rfl | rfl | rfl | rfl | rfl | rfl | rfl <;> rfl
def nameByte (b : Int) : Bool := decide (97 ≤ b ∧ b ≤ 122) || decide (48 ≤ b ∧ b ≤ 57)
def nameV (t : ByteArray) : Bool := (bytesOf t).all nameByte && decide (1 ≤ (t.size : Int) ∧ (t.size : Int) ≤ 12)
def laterV (a b c d : Int) : Bool := if a = c then decide (b > d) else decide (a > c)
def stampV (a b : Int) : Bool := decide (0 ≤ a ∧ a ≤ 100000) && decide (0 ≤ b ∧ b ≤ 2)
def regV (a b c : Int) : Bool := stampV b c && decide (0 ≤ a ∧ a ≤ 1000000000)
/-! ### sealed texts -/
def fourV (s : Int) : ByteArray := strOfNums [(s / 16777216) % 256, (s / 65536) % 256, (s / 256) % 256, s % 256]
theorem fourV_size (s : Int) : (fourV s).size = 4 := by rw [fourV, strOfNums_size]; rfl
def sealedV (t : ByteArray) : ByteArray × Bool := if (t.size : Int) > 20000 then ((⟨#[]⟩ : ByteArray), false) else (t ++ fourV (sumL 4294967295 (bytesOf t)), true)
def fourAtV (t : ByteArray) (n : Nat) : Int := bt t (n : Int) * 16777216 + bt t ((n : Int) + 1) * 65536 + bt t ((n : Int) + 2) * 256 + bt t ((n : Int) + 3)
def unsealedV (t : ByteArray) : ByteArray × Bool :=
  if 0 ≤ (t.size : Int) - 4 ∧ (t.size : Int) - 4 ≤ 20000 then
    if sumL 4294967295 (bytesOf (t.extract 0 (t.size - 4))) = fourAtV t (t.size - 4) then (t.extract 0 (t.size - 4), true) else ((⟨#[]⟩ : ByteArray), false)
  else ((⟨#[]⟩ : ByteArray), false)
theorem or_join64 (i : Nat) {x y : Int} (hx0 : 0 ≤ x) (hx1 : x < 2 ^ 63) (hx : x % 2 ^ i = 0) (hy0 : 0 ≤ y) (hy : y < 2 ^ i ∧ i ≤ 62) : Go.bits .or .i64 x y = x + y := by
  have hp : (2 : Int) ^ i ≤ 2 ^ 63 := by
    have := Nat.pow_le_pow_right (show 2 > 0 by decide) (show i ≤ 63 by omega)
    exact_mod_cast this
  exact bits_join .i64 63 (by decide) wraps_i64 i x y hx0 hx hx1 hy0 hy.1 (by omega)
def btN (t : ByteArray) (i : Nat) : Nat := (bt t (i : Int)).toNat
theorem byte_at (t : ByteArray) (i : Nat) : bt t (i : Int) = ((btN t i : Nat) : Int) := by
  have := bt_range t (i : Int)
  unfold btN
  omega
theorem data_at (t : ByteArray) (i : Nat) (h : i < t.size) : t.data.toList[i]? = some (UInt8.ofNat (btN t i)) := by
  have hl : i < t.data.toList.length := by rw [Array.length_toList]; exact h
  rw [List.getElem?_eq_getElem hl]
  congr 1
  unfold btN bt
  rw [dif_pos (by simpa using h)]
  simp
  rfl
theorem four_bytes (t : ByteArray) (n : Nat) (hsz : t.size = n + 4) (s : Int) (h0 : 0 ≤ s) (h1 : s < 4294967296) :
    (t.extract n t.size).toList = (fourV s).toList ↔ s = fourAtV t n := by
  rw [ByteArray.toList_eq, ByteArray.toList_eq]
  have hL : (t.extract n t.size).data.toList = [UInt8.ofNat (btN t n), UInt8.ofNat (btN t (n + 1)), UInt8.ofNat (btN t (n + 2)), UInt8.ofNat (btN t (n + 3))] := by
    have hlen : t.data.toList.length = n + 4 := by rw [Array.length_toList]; exact hsz
    have hd : (t.extract n t.size).data.toList = t.data.toList.drop n := by
      rw [ByteArray.data_extract, Array.toList_extract, List.extract_eq_take_drop, hsz]
      rw [List.take_of_length_le (by rw [List.length_drop, hlen]; omega)]
    rw [hd]
    apply List.ext_getElem?
    intro j
    rw [List.getElem?_drop]
    rcases j with _ | _ | _ | _ | j
    · rw [data_at t _ (by omega)]; rfl
    · rw [data_at t _ (by omega)]; rfl
    · rw [data_at t _ (by omega)]; rfl
    · rw [data_at t _ (by omega)]; rfl
    · rw [List.getElem?_eq_none (by omega)]; rfl
  rw [hL, fourV, strOfNums_data]
  unfold fourAtV
  rw [show (n : Int) + 1 = ((n + 1 : Nat) : Int) by omega, show (n : Int) + 2 = ((n + 2 : Nat) : Int) by omega, show (n : Int) + 3 = ((n + 3 : Nat) : Int) by omega]
  have b0 := bt_range t (n : Int)
  have b1 := bt_range t ((n + 1 : Nat) : Int)
  have b2 := bt_range t ((n + 2 : Nat) : Int)
  have b3 := bt_range t ((n + 3 : Nat) : Int)
  rw [byte_at] at b0 b1 b2 b3
  rw [byte_at, byte_at, byte_at, byte_at]
  generalize btN t n = x0 at *
  generalize btN t (n + 1) = x1 at *
  generalize btN t (n + 2) = x2 at *
  generalize btN t (n + 3) = x3 at *
  have key : ∀ (a b : Nat), a < 256 → b < 256 → (UInt8.ofNat a = UInt8.ofNat b ↔ a = b) := by
    intro a b ha hb
    constructor
    · intro h
      have := congrArg UInt8.toNat h
      simp at this
      omega
    · rintro rfl; rfl
  simp only [List.map_cons, List.map_nil, List.cons.injEq, and_true]
  rw [key _ _ (by omega) (by omega), key _ _ (by omega) (by omega), key _ _ (by omega) (by omega), key _ _ (by omega) (by omega)]
  omega
theorem Nat.one_le_two_pow_128 (i : Nat) : 1 ≤ 128 ^ i := Nat.one_le_pow _ _ (by decide)
/-- What is read from place a on: d bytes may still be looked at, i were. -/
def readV (t : ByteArray) (a : Nat) : Nat → Nat → Nat → Int × Int × Bool
  | 0, _, _ => (0, 0, false)
  | d + 1, i, n =>
    if a + i < t.size then
      if btN t (a + i) < 128 then
        if n + btN t (a + i) % 128 * 128 ^ i > 1000000000 then (0, 0, false)
        else if (strOfNums (var7 (n + btN t (a + i) % 128 * 128 ^ i))).toList = (t.extract a (a + i + 1)).toList then (((n + btN t (a + i) % 128 * 128 ^ i : Nat) : Int), ((a + i + 1 : Nat) : Int), true)
        else (0, 0, false)
      else readV t a d (i + 1) (n + btN t (a + i) % 128 * 128 ^ i)
    else (0, 0, false)

def readVarV (t : ByteArray) (p : Int) : Int × Int × Bool := if 0 ≤ p ∧ p ≤ (t.size : Int) then readV t p.toNat 5 0 0 else (0, 0, false)
theorem readV_range (t : ByteArray) (a : Nat) (ha : a ≤ t.size) (d : Nat) : ∀ i n, 0 ≤ (readV t a d i n).1 ∧ (readV t a d i n).1 ≤ 1000000000 ∧ 0 ≤ (readV t a d i n).2.1 ∧ (readV t a d i n).2.1 ≤ (t.size : Int) := by
  induction d with
  | zero => intro i n; simp [readV]
  | succ d ih =>
    intro i n
    unfold readV
    split
    · split
      · split
        · simp
        · split
          · dsimp only
            refine ⟨by omega, by omega, by omega, by omega⟩
          · simp
      · exact ih _ _
    · simp
theorem readVarV_range (t : ByteArray) (p : Int) : 0 ≤ (readVarV t p).1 ∧ (readVarV t p).1 ≤ 1000000000 ∧ 0 ≤ (readVarV t p).2.1 ∧ (readVarV t p).2.1 ≤ (t.size : Int) := by
  unfold readVarV
  split
  · exact readV_range t _ (by omega) 5 0 0
  · simp
def readShortV (t : ByteArray) (p : Int) : ByteArray × Int × Bool :=
  if (readVarV t p).2.2 = true then
    if (readVarV t p).1 > 20000 then ((⟨#[]⟩ : ByteArray), 0, false)
    else if (readVarV t p).1 > (t.size : Int) - (readVarV t p).2.1 then ((⟨#[]⟩ : ByteArray), 0, false)
    else (t.extract (readVarV t p).2.1.toNat ((readVarV t p).2.1 + (readVarV t p).1).toNat, (readVarV t p).2.1 + (readVarV t p).1, true)
  else ((⟨#[]⟩ : ByteArray), 0, false)
theorem and127_u8 {x : Int} (h0 : 0 ≤ x) (h1 : x ≤ 255) : Go.bits .and .u8 x 127 = x % 128 :=
  bits_mask .u8 8 (by decide) wraps_u8 7 (by decide) x h0 (by omega)
theorem pow_128 (i : Nat) : (128 : Nat) ^ i = 2 ^ (7 * i) := by rw [Nat.pow_mul]
theorem or_shift (i n c : Nat) (hi : i ≤ 4) (hn : n < 128 ^ i) (hc : c ≤ 127) :
    Go.bits .or .i64 (n : Int) (shl .i64 (c : Int) (7 * (i : Int))) = ((n + c * 128 ^ i : Nat) : Int) := by
  have hp5 : 128 ^ i ≤ 128 ^ 4 := Nat.pow_le_pow_right (by decide) hi
  have hm : c * 128 ^ i ≤ 127 * 128 ^ i := Nat.mul_le_mul_right _ hc
  have e1 : shl .i64 (c : Int) (7 * (i : Int)) = ((c * 128 ^ i : Nat) : Int) := by
    unfold shl
    have : min (7 * (i : Int)).toNat IntKind.i64.bits = 7 * i := by
      simp only [IntKind.bits]
      omega
    rw [this, show ((2 : Int) ^ (7 * i)) = ((2 ^ (7 * i) : Nat) : Int) by simp, ← pow_128, ← Int.natCast_mul]
    exact wraps_i64 _ (by omega) (by omega)
  rw [e1]
  have h := (bits_nat .i64 63 (by decide) wraps_i64 n (c * 128 ^ i) (by omega) (by omega)).2
  rw [h]
  congr 1
  rw [Nat.or_comm, pow_128, Nat.mul_comm c, ← Nat.two_pow_add_eq_or_of_lt (by rw [← pow_128]; exact hn) c]
  omega

/-! ### registers -/
def joinRegV (a b c d e f : Int) : Int × Int × Int := if b > e ∨ (b = e ∧ c > f) ∨ (b = e ∧ c = f ∧ d ≤ a) then (a, b, c) else (d, e, f)
def putRegV (a b c n e f : Int) : Int × Int × Int := if laterV e f b c = true then (if regV n e f = true then (n, e, f) else (a, b, c)) else (a, b, c)
end Go.Proofs.Ytjlffencbaifeaa.Lib
