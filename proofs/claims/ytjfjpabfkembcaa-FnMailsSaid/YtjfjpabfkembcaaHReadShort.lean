/- Short texts, read: ReadShort of both: the walks. Printed by this session's gen_readmail.py. -/
import Derived.Test.YtjfjpabfkembcaaHReadVar
namespace Go.Proofs.Ytjfjpabfkembcaa.H
open Go.RowKit
set_option linter.unusedVariables false
set_option linter.unusedSimpArgs false
theorem readV_range (t : ByteArray) (a : Nat) (ha : a ≤ t.size) (d : Nat) : ∀ i n, 0 ≤ (readV t a d i n).1 ∧ (readV t a d i n).1 ≤ 1000000000 ∧ 0 ≤ (readV t a d i n).2.1 ∧ (readV t a d i n).2.1 ≤ (t.size : Int) := by
  induction d with
  | zero => intro i n; simp [readV]
  | succ d ih =>
    intro i n
    unfold readV
    split
    · split
      · split
        · simp
        · split
          · dsimp only
            refine ⟨by omega, by omega, by omega, by omega⟩
          · simp
      · exact ih _ _
    · simp
theorem readVar_range (t : ByteArray) (p : Int) : 0 ≤ (readVar t p).1 ∧ (readVar t p).1 ≤ 1000000000 ∧ 0 ≤ (readVar t p).2.1 ∧ (readVar t p).2.1 ≤ (t.size : Int) := by
  unfold readVar
  split
  · rename_i h
    have := isIn_iff.1 h
    exact readV_range t _ (by omega) 5 0 0
  · simp
def readShort (t : ByteArray) (p : Int) : ByteArray × Int × Bool :=
  if (readVar t p).2.2 = true then
    (if (readVar t p).1 > 20000 then (⟨#[]⟩, 0, false)
     else if (readVar t p).1 > (t.size : Int) - (readVar t p).2.1 then (⟨#[]⟩, 0, false)
     else (t.extract (readVar t p).2.1.toNat ((readVar t p).2.1 + (readVar t p).1).toNat, (readVar t p).2.1 + (readVar t p).1, true))
  else (⟨#[]⟩, 0, false)
def RetSh (r : ByteArray × Int × Bool) (w : World) (e : Ending) (w' : World) : Prop := e = .returned (.tuple #[.string r.1, .int .i64 r.2.1, .bool r.2.2]) ∧ Below w.heap.size w w'
set_option maxHeartbeats 2000000 in
set_option maxRecDepth 100000 in
theorem readShort_calls (w : World) (t : ByteArray) (p : Int) (ht : t.size ≤ 140737488351232) : Calls Try.prog 192 #[.string t, .int .i64 p] w (RetSh (readShort t p) w) := by
  obtain ⟨n, f, ok, hr⟩ : ∃ n f ok, readVar t p = (n, f, ok) := ⟨_, _, _, rfl⟩
  have hrg := readVar_range t p
  rw [hr] at hrg
  obtain ⟨hn0, hn1, hf0, hf1⟩ := hrg
  dsimp only at hn0 hn1 hf0 hf1
  have HE : Aside (readShort t p = if ok = true then (if n > 20000 then (⟨#[]⟩, 0, false) else if n > (t.size : Int) - f then (⟨#[]⟩, 0, false) else (t.extract f.toNat (f + n).toNat, f + n, true)) else (⟨#[]⟩, 0, false)) := ⟨by unfold readShort; rw [hr]⟩
  have HR := Aside.mk hr
  clear hr
  cases ok
  rotate_left
  by_cases h1 : n > 20000
  rotate_left
  by_cases h2 : n > (t.size : Int) - f
  rotate_left
  · have h3 : f + n ≤ (t.size : Int) := by omega
    have HT : Aside (readShort t p = (t.extract f.toNat (f + n).toNat, f + n, true)) := ⟨by rw [HE.out, if_pos rfl, if_neg h1, if_neg h2]⟩
    clear HE
    have hsl : ∀ w', (Instr.slice 9 (.string t) (some (.int .i64 f)) (some (.int .i64 (f + n))) none).run Try.prog w' = .ok (.string (t.extract f.toNat (f + n).toNat)) w' := fun w' => run_slice_string (P := Try.prog) w' 9 t .i64 .i64 f (f + n) Try.underlying9 hf0 (by omega) h3
    go_enter Try.func192, Try.ntmps192
    go_wp2_with (go_at_call 191; refine (readVar_calls _ _ _ ht).mono ?_; rintro e w1 ⟨rfl, hb⟩; rw [HR.out]; dsimp only; have HB := Aside.mk hb; clear hb)
    refine bodyPost_ret (v := .tuple #[.string (t.extract f.toNat (f + n).toNat), .int .i64 (f + n), .bool true]) (by simp [results, go_sem]) rfl ⟨by rw [HT.out], HB.out⟩
  all_goals
    have HT : Aside (readShort t p = (⟨#[]⟩, 0, false)) := ⟨by rw [HE.out]; first | rw [if_pos rfl, if_neg h1, if_pos h2] | rw [if_pos rfl, if_pos h1] | rfl⟩
    clear HE
    go_enter Try.func192, Try.ntmps192
    go_wp2_with (go_at_call 191; refine (readVar_calls _ _ _ ht).mono ?_; rintro e w1 ⟨rfl, hb⟩; rw [HR.out]; dsimp only; have HB := Aside.mk hb; clear hb)
    refine bodyPost_ret (v := .tuple #[.string ⟨#[]⟩, .int .i64 0, .bool false]) (by simp [results, go_sem]) rfl ⟨by rw [HT.out], HB.out⟩
set_option maxHeartbeats 2000000 in
set_option maxRecDepth 100000 in
theorem specReadShort_calls (w : World) (t : ByteArray) (p : Int) (ht : t.size ≤ 140737488351232) : Calls Try.prog 178 #[.string t, .int .i64 p] w (RetSh (readShort t p) w) := by
  obtain ⟨n, f, ok, hr⟩ : ∃ n f ok, readVar t p = (n, f, ok) := ⟨_, _, _, rfl⟩
  have hrg := readVar_range t p
  rw [hr] at hrg
  obtain ⟨hn0, hn1, hf0, hf1⟩ := hrg
  dsimp only at hn0 hn1 hf0 hf1
  have HE : Aside (readShort t p = if ok = true then (if n > 20000 then (⟨#[]⟩, 0, false) else if n > (t.size : Int) - f then (⟨#[]⟩, 0, false) else (t.extract f.toNat (f + n).toNat, f + n, true)) else (⟨#[]⟩, 0, false)) := ⟨by unfold readShort; rw [hr]⟩
  have HR := Aside.mk hr
  clear hr
  cases ok
  rotate_left
  by_cases h1 : n > 20000
  rotate_left
  by_cases h2 : n > (t.size : Int) - f
  rotate_left
  · have h3 : f + n ≤ (t.size : Int) := by omega
    have HT : Aside (readShort t p = (t.extract f.toNat (f + n).toNat, f + n, true)) := ⟨by rw [HE.out, if_pos rfl, if_neg h1, if_neg h2]⟩
    clear HE
    have hsl : ∀ w', (Instr.slice 9 (.string t) (some (.int .i64 f)) (some (.int .i64 (f + n))) none).run Try.prog w' = .ok (.string (t.extract f.toNat (f + n).toNat)) w' := fun w' => run_slice_string (P := Try.prog) w' 9 t .i64 .i64 f (f + n) Try.underlying9 hf0 (by omega) h3
    go_enter Try.func178, Try.ntmps178
    go_wp2_with (go_at_call 177; refine (specReadVar_calls _ _ _ ht).mono ?_; rintro e w1 ⟨rfl, hb⟩; rw [HR.out]; dsimp only; have HB := Aside.mk hb; clear hb)
    refine bodyPost_ret (v := .tuple #[.string (t.extract f.toNat (f + n).toNat), .int .i64 (f + n), .bool true]) (by simp [results, go_sem]) rfl ⟨by rw [HT.out], HB.out⟩
  all_goals
    have HT : Aside (readShort t p = (⟨#[]⟩, 0, false)) := ⟨by rw [HE.out]; first | rw [if_pos rfl, if_neg h1, if_pos h2] | rw [if_pos rfl, if_pos h1] | rfl⟩
    clear HE
    go_enter Try.func178, Try.ntmps178
    go_wp2_with (go_at_call 177; refine (specReadVar_calls _ _ _ ht).mono ?_; rintro e w1 ⟨rfl, hb⟩; rw [HR.out]; dsimp only; have HB := Aside.mk hb; clear hb)
    refine bodyPost_ret (v := .tuple #[.string ⟨#[]⟩, .int .i64 0, .bool false]) (by simp [results, go_sem]) rfl ⟨by rw [HT.out], HB.out⟩
end Go.Proofs.Ytjfjpabfkembcaa.H
