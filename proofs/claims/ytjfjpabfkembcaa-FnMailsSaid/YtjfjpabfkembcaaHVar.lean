/- Numbers in bytes, as text: VarText of both: the walks. -/
import Derived.Test.YtjfjpabfkembcaaHSnoc
import Derived.Test.YtjfjpabfkembcaaHCur
import Derived.Test.YtjfjpabfkembcaaHOk1
import Derived.Laws.BytesArg
import Derived.Laws.BitsLemmas
namespace Go.Proofs.Ytjfjpabfkembcaa.H
open Go.RowKit
set_option linter.unusedVariables false
set_option linter.unusedSimpArgs false
/-! ### bits -/
theorem wraps64 (n : Int) (h0 : 0 ≤ n) (h1 : n < 2 ^ 63) : IntKind.i64.wrap n = n := by rw [IntKind.wrap_i64]; omega
theorem and127n (m : Nat) (h : m ≤ 9223372036854775807) : bits .and .i64 (m : Int) 127 = ((m % 128 : Nat) : Int) := by
  rw [show bits .and .i64 (m : Int) 127 = (m : Int) % 128 from bits_mask .i64 63 (by decide) wraps64 7 (by decide) m (by omega) (by omega)]
  omega
theorem or128n (m : Nat) (h : m < 128) : bits .or .i64 (m : Int) 128 = ((m + 128 : Nat) : Int) := by
  have h2 := (bits_nat .i64 63 (by decide) wraps64 m 128 (by omega) (by decide)).2
  have e : (m ||| 128 : Nat) = m + 128 := by
    rw [Nat.or_comm, show (128 : Nat) = 2 ^ 7 * 1 from rfl, ← Nat.two_pow_add_eq_or_of_lt (show m < 2 ^ 7 by omega) 1]
    omega
  rw [e] at h2
  exact h2
/-! ### numbers in bytes -/
def var7 (n : Nat) : List Int := if h : n > 127 then ((n % 128 + 128 : Nat) : Int) :: var7 (n / 128) else [(n : Int)]
termination_by n
decreasing_by omega
theorem var7_big {n : Nat} (h : n > 127) : var7 n = ((n % 128 + 128 : Nat) : Int) :: var7 (n / 128) := by rw [var7, dif_pos h]
theorem var7_small {n : Nat} (h : ¬ n > 127) : var7 n = [(n : Int)] := by rw [var7, dif_neg h]
theorem var7_length (d : Nat) : ∀ n : Nat, n < 128 ^ (d + 1) → (var7 n).length ≤ d + 1 := by
  induction d with
  | zero =>
    intro n h
    rw [var7_small (by omega)]
    simp
  | succ d ih =>
    intro n h
    by_cases hb : n > 127
    · rw [var7_big hb]
      have h2 : n / 128 < 128 ^ (d + 1) := by
        apply Nat.div_lt_of_lt_mul
        rw [Nat.pow_succ] at h
        omega
      have h3 := ih _ h2
      simp only [List.length_cons]
      omega
    · rw [var7_small hb]
      simp
/-- The text of a number. -/
def varT (n : Nat) : ByteArray := strOfNums (var7 n)
def varText (n : Int) : ByteArray × Bool := if isIn n 0 1000000000 = true then (varT n.toNat, true) else (⟨#[]⟩, false)
/-! ### bytes that a call owns -/
def owByte (_ : World) (D : List Nat) (cs : List Value) (x : Int) : Prop := D = [] ∧ cs = [.int .u8 x]
abbrev owBytes := owRow 5 1 owByte
theorem ow_byte : Ow 1 owByte rdByte where
  mov h _ := h
  blk h := by simp [h.1]
  len h := by rw [h.2]; rfl
  one h u hu := by rw [h.2] at hu; rw [List.mem_singleton.1 hu]; rfl
  rd h := h.2
theorem el_byte : El 64 5 1 1 := el_mk (z := .int .u8 0) Try.underlying64 (by kernel_rfl) rfl (by decide)
theorem under_string : Try.prog.underlying 9 = some .string := Try.underlying9
/-- string(b) of bytes that are read. -/
theorem conv_bytes {w : World} {g cap n : Nat} {l : List Int} (h : rdBytes w (.slice (some ⟨g, 0, none⟩) n cap) l) (hn : l.length = n) :
    (convert 64 9 (.slice (some ⟨g, 0, none⟩) n cap)).run Try.prog w = .ok (.string (strOfNums l)) w := by
  refine run_convert_bytes_arg w 64 5 Try.underlying64 Try.underlying5 g 0 n cap l hn (fun i hi => ?_) 9 under_string
  obtain ⟨ad, e, hc⟩ := rdBytes_at h i (by omega)
  injection e with e
  subst e
  rw [add_zero_] at hc
  rw [Nat.zero_add, hc]
  simp [List.getD, List.getElem?_eq_getElem (show i < l.length by omega)]
theorem var7_bigI {n : Nat} (h : n > 127) : var7 n = ((n : Int) % 128 + 128) :: var7 (n / 128) := by
  rw [var7_big h]
  congr 1
set_option maxHeartbeats 2000000 in
set_option maxRecDepth 100000 in
theorem l01Var_calls (w : World) (n : Nat) (hn : n ≤ 9223372036854775807) : Calls Try.prog 186 #[.int .i64 n] w fun e w' => e = .returned (.string (varT n)) ∧ Below w.heap.size w w' := by
  go_enter Try.func186, Try.ntmps186
  go_wp2
  go_loopw [0, 3] (fun v0 v3 wr => ∃ (m : Nat) (Av : Option Addr) (nv cv : Nat) (D : List Nat) (l : List Int), m ≤ n ∧ v0 = .int .i64 m ∧ v3 = .slice Av nv cv ∧ Aside (var7 n = l ++ var7 m) ∧ Aside (owBytes wr D (.slice Av nv cv) l) ∧ Aside (New w wr D) ∧ Aside (Below w.heap.size w wr)) (fun v0 _ _ => (intOf v0).toNat)
  case atStart => exact ⟨n, _, _, _, [w.heap.size], [], Nat.le_refl _, rfl, rfl, ⟨rfl⟩, ⟨owRow_lit0 w _ rfl⟩, ⟨new_lit0 w w _ _ rfl (Nat.le_refl _)⟩, ⟨by (repeat (first | (with_reducible exact HB.out) | (with_reducible exact Below.refl _ _) | (with_reducible refine below_set ?_ (by first | omega | (dsimp only; omega) | (simp; done) | (simp; omega)) _) | (with_reducible refine below_alloc ?_ _) | (with_reducible refine below_drewN ?_ _) | (with_reducible refine below_drew ?_)))⟩⟩
  case round =>
    obtain ⟨m, Av, nv, cv, D, l, hm, rfl, rfl, HV, HO, HN, HB⟩ := hrel
    have hml : m ≤ 9223372036854775807 := by omega
    have HL : Aside (l.length ≤ 10) := ⟨by have h1 := congrArg List.length HV.out; rw [List.length_append] at h1; have h2 := var7_length 9 n (by omega); omega⟩
    by_cases hb : m > 127
    · have hbi : (127 : Int) < (m : Int) := by omega
      have HT : Aside (var7 n = (l ++ [(m : Int) % 128 + 128]) ++ var7 (m / 128)) := ⟨by rw [HV.out, var7_bigI hb, List.append_assoc]; rfl⟩
      go_wp2_with (at_builtin; refine list_snoc el_byte ow_byte (owRow_alloc ow_byte HO.out (.cells #[.int .u8 ((m : Int) % 128 + 128)] 5)) (w0 := w) (y := ((m : Int) % 128 + 128)) (Dx := []) (cs := [.int .u8 ((m : Int) % 128 + 128)]) ⟨rfl, rfl⟩ (by rw [List.append_nil]; exact HN.out.alloc _) (by have := HB.out.size; simp; omega) (.tmp 7) (.tmp 12) (by rfl) (by rfl) (by rfl) wr.heap.size (by rfl) (Loc.new wr _ _) (by have := HL.out; omega) (by have := HL.out; omega) (wr.heap.size + 1) (by simp) (fun g cap w' D' hk1 hk2 hk3 hk => ?_); have HO3 := Aside.mk hk1; have HN3 := Aside.mk hk2; have HB3 : Aside (Below w.heap.size w w') := ⟨(below_alloc HB.out _).trans (hk.below (fun b hb => (HN.out.2 b hb).1) (by have := HB.out.size; simp; omega))⟩; clear hk1 hk2 hk3 hk)
      go_roundw
      case rel => exact ⟨m / 128, _, _, _, _, _, by omega, rfl, rfl, HT, HO3, HN3, HB3⟩
      case measure => simp [intOf]; omega
    · have hbi : ¬ ((127 : Int) < (m : Int)) := by omega
      have HT : Aside (var7 n = l ++ [(m : Int)]) := ⟨by rw [HV.out, var7_small hb]⟩
      go_wp2_with (at_builtin; refine list_snoc el_byte ow_byte (owRow_alloc ow_byte HO.out (.cells #[.int .u8 (m : Int)] 5)) (w0 := w) (y := (m : Int)) (Dx := []) (cs := [.int .u8 (m : Int)]) ⟨rfl, rfl⟩ (by rw [List.append_nil]; exact HN.out.alloc _) (by have := HB.out.size; simp; omega) (.tmp 16) (.tmp 19) (by rfl) (by rfl) (by rfl) wr.heap.size (by rfl) (Loc.new wr _ _) (by have := HL.out; omega) (by have := HL.out; omega) (wr.heap.size + 1) (by simp) (fun g cap w' D' hk1 hk2 hk3 hk => ?_); have hcv := conv_bytes (owRow_rd ow_byte hk1 : rdBytes w' _ _) (by simp); have HB3 : Aside (Below w.heap.size w w') := ⟨(below_alloc HB.out _).trans (hk.below (fun b hb => (HN.out.2 b hb).1) (by have := HB.out.size; simp; omega))⟩; clear hk1 hk2 hk3 hk)
      go_ret
      exact ⟨by unfold varT; rw [HT.out]; rfl, HB3.out⟩
theorem or128n' (m : Nat) : bits .or .i64 ((m : Int) % 128) 128 = (m : Int) % 128 + 128 := by
  rw [show (m : Int) % 128 = ((m % 128 : Nat) : Int) by omega, or128n _ (by omega)]
  omega
theorem and127n' (m : Nat) (h : m ≤ 9223372036854775807) : bits .and .i64 (m : Int) 127 = (m : Int) % 128 := by
  rw [and127n m h]
  omega
set_option maxHeartbeats 2000000 in
set_option maxRecDepth 100000 in
theorem varText_calls (w : World) (n : Int) : Calls Try.prog 184 #[.int .i64 n] w fun e w' => e = .returned (.tuple #[.string (varText n).1, .bool (varText n).2]) ∧ Below w.heap.size w w' := by
  rcases hi : isIn n 0 1000000000 with _ | _
  · have HE : Aside (varText n = (⟨#[]⟩, false)) := ⟨by unfold varText; rw [hi]; rfl⟩
    have HI := Aside.mk hi
    clear hi
    go_enter Try.func184, Try.ntmps184
    go_wp2_with (go_at_call 119; refine (within_calls _ _ _ _).mono ?_; rintro e w1 ⟨rfl, hb⟩; rw [HI.out]; have HB := Aside.mk hb; clear hb)
    refine bodyPost_ret (v := .tuple #[.string ⟨#[]⟩, .bool false]) (by simp [results, go_sem]) rfl ⟨by rw [HE.out], HB.out⟩
  · obtain ⟨h0, h1⟩ := isIn_iff.1 hi
    obtain ⟨n, rfl⟩ := Int.eq_ofNat_of_zero_le h0
    have HE : Aside (varText n = (varT n, true)) := ⟨by unfold varText; rw [hi]; rfl⟩
    have HI := Aside.mk hi
    clear hi h0
    go_enter Try.func184, Try.ntmps184
    go_wp2_with (go_at_call 119; refine (within_calls _ _ _ _).mono ?_; rintro e w1 ⟨rfl, hb⟩; rw [HI.out]; have HB := Aside.mk hb; clear hb)
    go_loopw [0, 4] (fun v0 v4 wr => ∃ (m : Nat) (Av : Option Addr) (nv cv : Nat) (D : List Nat) (l : List Int), m ≤ n ∧ v0 = .int .i64 m ∧ v4 = .slice Av nv cv ∧ Aside (var7 n = l ++ var7 m) ∧ Aside (owBytes wr D (.slice Av nv cv) l) ∧ Aside (New w wr D) ∧ Aside (Below w.heap.size w wr)) (fun v0 _ _ => (intOf v0).toNat)
    case atStart => exact ⟨n, _, _, _, [w1.heap.size], [], Nat.le_refl _, rfl, rfl, ⟨rfl⟩, ⟨owRow_lit0 w1 _ rfl⟩, ⟨new_lit0 w w1 _ _ rfl HB.out.size⟩, ⟨below_alloc HB.out _⟩⟩
    case round =>
      clear HB
      obtain ⟨m, Av, nv, cv, D, l, hm, rfl, rfl, HV, HO, HN, HB⟩ := hrel
      have hml : m ≤ 9223372036854775807 := by omega
      have HL : Aside (l.length ≤ 10) := ⟨by have h1 := congrArg List.length HV.out; rw [List.length_append] at h1; have h2 := var7_length 9 n (by omega); omega⟩
      by_cases hb : m > 127
      · have hbi : (127 : Int) < (m : Int) := by omega
        have e1 := and127n' m hml
        have e2 := or128n' m
        have HT : Aside (var7 n = (l ++ [(m : Int) % 128 + 128]) ++ var7 (m / 128)) := ⟨by rw [HV.out, var7_bigI hb, List.append_assoc]; rfl⟩
        go_wp2_with (at_builtin; refine list_snoc el_byte ow_byte (owRow_alloc ow_byte HO.out (.cells #[.int .u8 ((m : Int) % 128 + 128)] 5)) (w0 := w) (y := ((m : Int) % 128 + 128)) (Dx := []) (cs := [.int .u8 ((m : Int) % 128 + 128)]) ⟨rfl, rfl⟩ (by rw [List.append_nil]; exact HN.out.alloc _) (by have := HB.out.size; simp; omega) (.tmp 11) (.tmp 16) (by rfl) (by rfl) (by rfl) wr.heap.size (by rfl) (Loc.new wr _ _) (by have := HL.out; omega) (by have := HL.out; omega) (wr.heap.size + 1) (by simp) (fun g cap w' D' hk1 hk2 hk3 hk => ?_); have HO3 := Aside.mk hk1; have HN3 := Aside.mk hk2; have HB3 : Aside (Below w.heap.size w w') := ⟨(below_alloc HB.out _).trans (hk.below (fun b hb => (HN.out.2 b hb).1) (by have := HB.out.size; simp; omega))⟩; clear hk1 hk2 hk3 hk)
        go_roundw
        case rel => exact ⟨m / 128, _, _, _, _, _, by omega, rfl, rfl, HT, HO3, HN3, HB3⟩
        case measure => simp [intOf]; omega
      · have hbi : ¬ ((127 : Int) < (m : Int)) := by omega
        have HT : Aside (var7 n = l ++ [(m : Int)]) := ⟨by rw [HV.out, var7_small hb]⟩
        go_wp2_with (at_builtin; refine list_snoc el_byte ow_byte (owRow_alloc ow_byte HO.out (.cells #[.int .u8 (m : Int)] 5)) (w0 := w) (y := (m : Int)) (Dx := []) (cs := [.int .u8 (m : Int)]) ⟨rfl, rfl⟩ (by rw [List.append_nil]; exact HN.out.alloc _) (by have := HB.out.size; simp; omega) (.tmp 20) (.tmp 23) (by rfl) (by rfl) (by rfl) wr.heap.size (by rfl) (Loc.new wr _ _) (by have := HL.out; omega) (by have := HL.out; omega) (wr.heap.size + 1) (by simp) (fun g cap w' D' hk1 hk2 hk3 hk => ?_); have hcv := conv_bytes (owRow_rd ow_byte hk1 : rdBytes w' _ _) (by simp); have HB3 : Aside (Below w.heap.size w w') := ⟨(below_alloc HB.out _).trans (hk.below (fun b hb => (HN.out.2 b hb).1) (by have := HB.out.size; simp; omega))⟩; clear hk1 hk2 hk3 hk)
        refine bodyPost_ret (v := .tuple #[.string (strOfNums (l ++ [(m : Int)])), .bool true]) (by simp [results, go_sem]) rfl ⟨by rw [HE.out]; unfold varT; rw [HT.out], HB3.out⟩
end Go.Proofs.Ytjfjpabfkembcaa.H
