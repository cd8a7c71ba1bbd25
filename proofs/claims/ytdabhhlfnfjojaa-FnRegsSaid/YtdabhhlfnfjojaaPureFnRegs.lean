/- FnRegs holds at every drawn code: of registers the later one counts, in whatever order they come, and how often; the bounds are the row's own. -/
import Derived.Test.YtdabhhlfnfjojaaPFnRegsx2
import Derived.Test.YtdabhhlfnfjojaaPFnRegsx3
import Derived.Test.YtdabhhlfnfjojaaPFnRegsx4
import Derived.Test.YtdabhhlfnfjojaaPFnRegsx5
import Derived.Test.YtdabhhlfnfjojaaPFnRegsx6
import Derived.Test.YtdabhhlfnfjojaaLib
import Derived.Test.YtdabhhlfnfjojaaLib2
import Derived.Test.YtdabhhlfnfjojaaLib3
import Derived.Test.YtdabhhlfnfjojaaLib4
import Derived.Test.YtdabhhlfnfjojaaLib5
import Derived.Test.YtdabhhlfnfjojaaLib6
import Derived.Test.YtdabhhlfnfjojaaLib7
import Derived.Test.YtdabhhlfnfjojaaLib8
import Derived.Test.YtdabhhlfnfjojaaLib9
namespace Go.Proofs.Ytdabhhlfnfjojaa.Pure
open Go.RowKit Go.Proofs.Ytdabhhlfnfjojaa.PFnRegs Go.Proofs.YtdabhhlfnfjojaaW.PrintWords Go.Proofs.YtdabhhlfnfjojaaW.PrintLast Go.Proofs.Ytdabhhlfnfjojaa.Lib
set_option linter.unusedVariables false
set_option linter.unusedSimpArgs false

theorem l01In_eq (x a b : Int) : spec_l01In.f x a b = some (decide (a ≤ x ∧ x ≤ b)) := by
  unfold spec_l01In.f
  by_cases h : a ≤ x
  · rw [if_pos h]; simp [h]
  · rw [if_neg h]; simp [h]
theorem within_eq (x a b : Int) : impl_within.f x a b = some (decide (a ≤ x ∧ x ≤ b)) := by
  unfold impl_within.f
  by_cases h : a ≤ x
  · rw [if_pos h]; simp [h]
  · rw [if_neg h]; simp [h]
theorem spec_Later_eq (a b c d : Int) : spec_Later.f a b c d = some (laterV a b c d) := by
  unfold spec_Later.f laterV
  by_cases h : a = c
  · rw [if_pos h, if_pos h]
  · rw [if_neg h, if_neg h]
theorem impl_Later_eq (a b c d : Int) : impl_Later.f a b c d = some (laterV a b c d) := by
  unfold impl_Later.f laterV
  by_cases h : a > c
  · rw [if_pos h, if_neg (by omega), decide_eq_true h]
  · rw [if_neg h]
    by_cases h2 : a = c
    · rw [if_pos h2, if_pos h2]
    · rw [if_neg h2, if_neg h2, decide_eq_false h]
theorem spec_StampOk_eq (a b : Int) : spec_StampOk.f a b = some (stampV a b) := by
  unfold spec_StampOk.f stampV
  simp only [l01In_eq, Option.bind_some]
  by_cases h : 0 ≤ a ∧ a ≤ 100000 <;> by_cases h2 : 0 ≤ b ∧ b ≤ 2 <;> simp [h, h2]
theorem impl_StampOk_eq (a b : Int) : impl_StampOk.f a b = some (stampV a b) := by
  unfold impl_StampOk.f stampV
  simp only [within_eq, Option.bind_some]
  by_cases h : 0 ≤ a ∧ a ≤ 100000 <;> by_cases h2 : 0 ≤ b ∧ b ≤ 2 <;> simp [h, h2]
theorem spec_RegOk_eq (a b c : Int) : spec_RegOk.f a b c = some (regV a b c) := by
  unfold spec_RegOk.f regV
  simp only [l01In_eq, spec_StampOk_eq, Option.bind_some]
  cases stampV b c <;> simp
theorem impl_RegOk_eq (a b c : Int) : impl_RegOk.f a b c = some (regV a b c) := by
  unfold impl_RegOk.f regV
  simp only [within_eq, impl_StampOk_eq, Option.bind_some]
  cases stampV b c <;> simp
theorem impl_JoinReg_ev (a b c d e f : Int) : Ev (fun k => impl_JoinReg.f k a b c d e f) (joinRegV a b c d e f) := by
  unfold impl_JoinReg.f joinRegV
  have hT : Ev (fun k => impl_JoinReg.j0 k true a b c d e f) (d, e, f) := by
    refine Ev.step (f := fun _ => some (d, e, f)) (fun k => ?_) (Ev.now _)
    simp only [impl_JoinReg.j0, ↓reduceIte]
  have hF : Ev (fun k => impl_JoinReg.j0 k false a b c d e f) (a, b, c) := by
    refine Ev.step (f := fun _ => some (a, b, c)) (fun k => ?_) (Ev.now _)
    simp only [impl_JoinReg.j0, Bool.false_eq_true, ↓reduceIte]
  simp only [impl_Later_eq, Option.bind_some]
  have l1 : laterV e f b c = true ↔ (e > b ∨ (e = b ∧ f > c)) := by
    unfold laterV
    by_cases h : e = b <;> simp [h]
  have l2 : laterV b c e f = true ↔ (b > e ∨ (b = e ∧ c > f)) := by
    unfold laterV
    by_cases h : b = e <;> simp [h]
  by_cases h1 : laterV e f b c = true
  · have := l1.1 h1
    rw [if_neg (by omega)]
    simp only [if_pos h1]
    exact hT
  · have h1' : ¬ (e > b ∨ (e = b ∧ f > c)) := fun h => h1 (l1.2 h)
    simp only [if_neg h1]
    by_cases h2 : laterV b c e f = true
    · have := l2.1 h2
      rw [if_pos (by omega)]
      simp only [if_pos h2]
      exact hF
    · have h2' : ¬ (b > e ∨ (b = e ∧ c > f)) := fun h => h2 (l2.2 h)
      simp only [if_neg h2]
      by_cases h3 : d > a
      · rw [if_neg (by omega), decide_eq_true h3]
        exact hT
      · rw [if_pos (by omega), decide_eq_false h3]
        exact hF
theorem PutReg_same (a b c n e f : Int) : impl_PutReg.f a b c n e f = spec_PutReg.f a b c n e f := by
  unfold impl_PutReg.f spec_PutReg.f
  simp only [impl_Later_eq, spec_Later_eq, impl_RegOk_eq, spec_RegOk_eq]
theorem spec_PutReg_eq (a b c n e f : Int) : spec_PutReg.f a b c n e f = some (putRegV a b c n e f) := by
  unfold spec_PutReg.f putRegV
  simp only [spec_Later_eq, spec_RegOk_eq, Option.bind_some]
  cases laterV e f b c <;> cases regV n e f <;> rfl
theorem impl_PutReg_eq (a b c n e f : Int) : impl_PutReg.f a b c n e f = some (putRegV a b c n e f) := by
  rw [PutReg_same, spec_PutReg_eq]
theorem new_l0 (b : List Int) (d : Nat) : ∀ (h : Int) (i : Nat), i + d = min b.length 4000 → ∃ h', Ev (fun k => spec_l01New.l0 k b h (i : Int)) (b, 0, h') := by
  induction d with
  | zero =>
    intro h i hi
    refine ⟨h, Ev.step (f := fun _ => some (b, 0, h)) (fun k => ?_) (Ev.now _)⟩
    simp only [spec_l01New.l0]
    by_cases h1 : (i : Int) < (b.length : Int)
    · rw [if_pos h1, if_neg (by omega)]
    · rw [if_neg h1]
  | succ d ih =>
    intro h i hi
    obtain ⟨h', e⟩ := ih (Go.bits .and .i64 (wrap64 ((wrap64 ((wrap64 (h * 131)) + (wrap64 (rd b (i : Int))))) + 7)) 1073741823) (i + 1) (by omega)
    refine ⟨h', Ev.step (fun k => ?_) e⟩
    simp only [spec_l01New.l0]
    rw [if_pos (by omega), if_pos (by omega), if_pos (by omega), wrap_id (x := (i : Int) + 1) (by omega) (by omega)]
    rfl
theorem new_ev (b : List Int) : ∃ h, Ev (fun k => spec_l01New.f k b) (b, 0, h) := by
  unfold spec_l01New.f
  exact new_l0 b (min b.length 4000) _ 0 (by omega)
theorem byte_ok (b : List Int) (hb : b.length ≤ 9223372036854775807) (i h : Int) (h0 : 0 ≤ i) (h1 : i ≤ (b.length : Int)) :
    ∃ x i' h', spec_l01Byte.f b i h = some (x, i', h') ∧ (0 ≤ x ∧ x ≤ 255) ∧ 0 ≤ i' ∧ i' ≤ (b.length : Int) := by
  unfold spec_l01Byte.f
  by_cases hl : i < (b.length : Int)
  · rw [if_pos hl, if_pos h0, wrap_id (x := i + 1) (by omega) (by omega)]
    simp only [and255_i64]
    exact ⟨_, _, _, rfl, by omega, by omega, by omega⟩
  · rw [if_neg hl]
    simp only [and255_i64]
    exact ⟨_, _, _, rfl, by omega, by omega, by omega⟩
theorem below_ok (b : List Int) (hb : b.length ≤ 9223372036854775807) (i h n : Int) (h0 : 0 ≤ i) (h1 : i ≤ (b.length : Int)) :
    ∃ x i' h', spec_l01Below.f b i h n = some (x, i', h') ∧ (0 ≤ x ∧ (0 < n → x < n) ∧ (n ≤ 0 → x = 0)) ∧ 0 ≤ i' ∧ i' ≤ (b.length : Int) := by
  unfold spec_l01Below.f
  by_cases hn : n ≤ 0
  · rw [if_pos hn]
    exact ⟨_, _, _, rfl, ⟨by omega, by omega, fun _ => rfl⟩, h0, h1⟩
  · rw [if_neg hn]
    obtain ⟨x, i1, s1, e1, r1, p1, q1⟩ := byte_ok b hb i h h0 h1
    by_cases hs : n ≤ 256
    · rw [if_pos hs, e1]
      simp only [Option.bind_some]
      rw [if_neg (by omega), tmod_pos r1.1]
      have m0 := Int.emod_nonneg x (show n ≠ 0 by omega)
      have m1 := Int.emod_lt_of_pos x (show 0 < n by omega)
      exact ⟨_, _, _, rfl, ⟨m0, fun _ => m1, by omega⟩, p1, q1⟩
    · rw [if_neg hs, e1]
      obtain ⟨y, i2, s2, e2, r2, p2, q2⟩ := byte_ok b hb i1 s1 p1 q1
      obtain ⟨z, i3, s3, e3, r3, p3, q3⟩ := byte_ok b hb i2 s2 p2 q2
      obtain ⟨w, i4, s4, e4, r4, p4, q4⟩ := byte_ok b hb i3 s3 p3 q3
      simp only [Option.bind_some, e2, e3, e4]
      rw [if_neg (by omega), wrap_id (x := x * 16777216) (by omega) (by omega), wrap_id (x := y * 65536) (by omega) (by omega), wrap_id (x := z * 256) (by omega) (by omega), wrap_id (x := x * 16777216 + y * 65536) (by omega) (by omega),
        wrap_id (x := x * 16777216 + y * 65536 + z * 256) (by omega) (by omega), wrap_id (by omega) (by omega), tmod_pos (by omega)]
      have m0 := Int.emod_nonneg (x * 16777216 + y * 65536 + z * 256 + w) (show n ≠ 0 by omega)
      have m1 := Int.emod_lt_of_pos (x * 16777216 + y * 65536 + z * 256 + w) (show 0 < n by omega)
      exact ⟨_, _, _, rfl, ⟨m0, fun _ => m1, by omega⟩, p4, q4⟩
theorem pickInt_ok (b : List Int) (hb : b.length ≤ 9223372036854775807) (i h : Int) (h0 : 0 ≤ i) (h1 : i ≤ (b.length : Int)) (l : List Int) (hl : 0 < l.length) :
    ∃ x i' h', spec_l01PickInt.f b i h l = some (x, i', h') ∧ x ∈ l ∧ 0 ≤ i' ∧ i' ≤ (b.length : Int) := by
  unfold spec_l01PickInt.f
  obtain ⟨x, i1, s1, e1, r1, p1, q1⟩ := below_ok b hb i h (l.length : Int) h0 h1
  rw [e1]
  simp only [Option.bind_some]
  have hx := r1.2.1 (by omega)
  obtain ⟨j, rfl⟩ := Int.eq_ofNat_of_zero_le r1.1
  rw [if_pos (by omega), if_pos (by omega)]
  refine ⟨_, _, _, rfl, ?_, p1, q1⟩
  have e0 : rd l (j : Int) = l[j]'(by omega) := getD_at _ l j (by omega)
  rw [e0]
  exact List.getElem_mem _
theorem stamp_ok (b : List Int) (hb : b.length ≤ 9223372036854775807) (i h : Int) (h0 : 0 ≤ i) (h1 : i ≤ (b.length : Int)) :
    ∃ t y i' h', spec_l03Stamp.f b i h = some (t, y, i', h') ∧ (0 ≤ t ∧ t < 12 ∧ 1 ≤ y ∧ y ≤ 2) ∧ 0 ≤ i' ∧ i' ≤ (b.length : Int) := by
  unfold spec_l03Stamp.f
  obtain ⟨x, i1, s1, e1, r1, p1, q1⟩ := below_ok b hb i h 12 h0 h1
  obtain ⟨y, i2, s2, e2, r2, p2, q2⟩ := below_ok b hb i1 s1 2 p1 q1
  have g1 := r1.2.1 (by decide)
  have g2 := r2.2.1 (by decide)
  simp only [e1, e2, Option.bind_some]
  rw [wrap_id (by omega) (by omega)]
  exact ⟨_, _, _, _, rfl, ⟨r1.1, g1, by omega, by omega⟩, p2, q2⟩
theorem any_ok (b : List Int) (hb : b.length ≤ 9223372036854775807) (i h : Int) (h0 : 0 ≤ i) (h1 : i ≤ (b.length : Int)) :
    ∃ t y i' h', spec_l03Any.f b i h = some (t, y, i', h') ∧ (-1 ≤ t ∧ t ≤ 100001 ∧ -1 ≤ y ∧ y ≤ 3) ∧ 0 ≤ i' ∧ i' ≤ (b.length : Int) := by
  unfold spec_l03Any.f
  obtain ⟨x, y, i1, s1, e1, r1, p1, q1⟩ := stamp_ok b hb i h h0 h1
  obtain ⟨z, i2, s2, e2, r2, p2, q2⟩ := below_ok b hb i1 s1 8 p1 q1
  simp only [e1, e2, Option.bind_some]
  by_cases hz : z = 0
  · rw [if_pos hz]
    obtain ⟨u, i3, s3, e3, r3, p3, q3⟩ := pickInt_ok b hb i2 s2 p2 q2 ([(-1), 100000, 100001] : List Int) (by decide)
    simp only [e3, Option.bind_some]
    simp only [List.mem_cons, List.not_mem_nil, or_false] at r3
    exact ⟨_, _, _, _, rfl, ⟨by omega, by omega, by omega, by omega⟩, p3, q3⟩
  · rw [if_neg hz]
    by_cases hz1 : z = 1
    · rw [if_pos hz1]
      obtain ⟨u, i3, s3, e3, r3, p3, q3⟩ := pickInt_ok b hb i2 s2 p2 q2 ([(-1), 0, 3] : List Int) (by decide)
      simp only [e3, Option.bind_some]
      simp only [List.mem_cons, List.not_mem_nil, or_false] at r3
      exact ⟨_, _, _, _, rfl, ⟨by omega, by omega, by omega, by omega⟩, p3, q3⟩
    · rw [if_neg hz1]
      exact ⟨_, _, _, _, rfl, ⟨by omega, by omega, by omega, by omega⟩, p2, q2⟩
theorem reg_ok (b : List Int) (hb : b.length ≤ 9223372036854775807) (i h : Int) (h0 : 0 ≤ i) (h1 : i ≤ (b.length : Int)) :
    ∃ v t y i' h', spec_l03Reg.f b i h = some (v, t, y, i', h') ∧ (-1 ≤ t ∧ t ≤ 100001 ∧ -1 ≤ y ∧ y ≤ 3) ∧ 0 ≤ i' ∧ i' ≤ (b.length : Int) := by
  unfold spec_l03Reg.f
  obtain ⟨x, y, i1, s1, e1, r1, p1, q1⟩ := any_ok b hb i h h0 h1
  obtain ⟨u, i3, s3, e3, r3, p3, q3⟩ := pickInt_ok b hb i1 s1 p1 q1 ([0, 1, 1, 7, (-1), 1000000001] : List Int) (by decide)
  simp only [e1, e3, Option.bind_some]
  exact ⟨_, _, _, _, _, rfl, r1, p3, q3⟩
theorem drawRegs_ok (b : List Int) (hb : b.length ≤ 9223372036854775807) : ∃ v, Ev (fun k => spec_DrawRegs.f k b) v ∧
    (0 ≤ v.1 ∧ v.1 ≤ 2) ∧ (0 ≤ v.2.1 ∧ v.2.1 < 12 ∧ 1 ≤ v.2.2.1 ∧ v.2.2.1 ≤ 2) ∧ (0 ≤ v.2.2.2.1 ∧ v.2.2.2.1 ≤ 2) ∧ (0 ≤ v.2.2.2.2.1 ∧ v.2.2.2.2.1 < 12 ∧ 1 ≤ v.2.2.2.2.2.1 ∧ v.2.2.2.2.2.1 ≤ 2) ∧
    (0 ≤ v.2.2.2.2.2.2.1 ∧ v.2.2.2.2.2.2.1 ≤ 2) ∧ (0 ≤ v.2.2.2.2.2.2.2.1 ∧ v.2.2.2.2.2.2.2.1 < 12 ∧ 1 ≤ v.2.2.2.2.2.2.2.2 ∧ v.2.2.2.2.2.2.2.2 ≤ 2) := by
  unfold spec_DrawRegs.f
  obtain ⟨h, e⟩ := new_ev b
  obtain ⟨x1, y1, i1, s1, e1, r1, p1, q1⟩ := stamp_ok b hb 0 h (by omega) (by omega)
  obtain ⟨x2, y2, i2, s2, e2, r2, p2, q2⟩ := stamp_ok b hb i1 s1 p1 q1
  obtain ⟨x3, y3, i3, s3, e3, r3, p3, q3⟩ := stamp_ok b hb i2 s2 p2 q2
  obtain ⟨z4, i4, s4, e4, r4, p4, q4⟩ := below_ok b hb i3 s3 3 p3 q3
  obtain ⟨z5, i5, s5, e5, r5, p5, q5⟩ := below_ok b hb i4 s4 3 p4 q4
  obtain ⟨z6, i6, s6, e6, r6, p6, q6⟩ := below_ok b hb i5 s5 3 p5 q5
  have g4 := r4.2.1 (by decide)
  have g5 := r5.2.1 (by decide)
  have g6 := r6.2.1 (by decide)
  refine ⟨(z4, x1, y1, z5, x2, y2, z6, x3, y3), Ev.bind e ?_, ⟨r4.1, by simp only; omega⟩, r1, ⟨r5.1, by simp only; omega⟩, r2, ⟨r6.1, by simp only; omega⟩, r3⟩
  simp only [e1, e2, e3, e4, e5, e6, Option.bind_some]
  exact Ev.now _
theorem drawPutReg_ok (b : List Int) (hb : b.length ≤ 9223372036854775807) : ∃ v, Ev (fun k => spec_DrawPutReg.f k b) v := by
  unfold spec_DrawPutReg.f
  obtain ⟨h, e⟩ := new_ev b
  obtain ⟨u, i1, s1, e1, r1, p1, q1⟩ := pickInt_ok b hb 0 h (by omega) (by omega) ([0, 1, 5, (-1)] : List Int) (by decide)
  obtain ⟨x2, y2, i2, s2, e2, r2, p2, q2⟩ := any_ok b hb i1 s1 p1 q1
  obtain ⟨v, t, y, i3, s3, e3, _⟩ := reg_ok b hb i2 s2 p2 q2
  refine ⟨(v, t, y, u, x2, y2), Ev.bind e ?_⟩
  simp only [e1, e2, e3, Option.bind_some]
  exact Ev.now _

theorem join_cases (a b c d e f : Int) : ((b > e ∨ (b = e ∧ c > f) ∨ (b = e ∧ c = f ∧ d ≤ a)) ∧ joinRegV a b c d e f = (a, b, c)) ∨ (¬ (b > e ∨ (b = e ∧ c > f) ∨ (b = e ∧ c = f ∧ d ≤ a)) ∧ joinRegV a b c d e f = (d, e, f)) := by
  unfold joinRegV
  by_cases h : b > e ∨ (b = e ∧ c > f) ∨ (b = e ∧ c = f ∧ d ≤ a)
  · exact .inl ⟨h, if_pos h⟩
  · exact .inr ⟨h, if_neg h⟩
theorem join_comm (a b c d e f : Int) : joinRegV d e f a b c = joinRegV a b c d e f := by
  rcases join_cases a b c d e f with ⟨h, e1⟩ | ⟨h, e1⟩ <;> rcases join_cases d e f a b c with ⟨g, e2⟩ | ⟨g, e2⟩ <;> rw [e1, e2] <;> first | rfl | (exfalso; omega) | (simp only [Prod.mk.injEq]; omega)
theorem join_again (a b c d e f : Int) : joinRegV (joinRegV a b c d e f).1 (joinRegV a b c d e f).2.1 (joinRegV a b c d e f).2.2 a b c = joinRegV a b c d e f := by
  rcases join_cases a b c d e f with ⟨h, e1⟩ | ⟨h, e1⟩
  · rw [e1]
    simp only
    rcases join_cases a b c a b c with ⟨g, e2⟩ | ⟨g, e2⟩ <;> rw [e2]
  · rw [e1]
    simp only
    rcases join_cases d e f a b c with ⟨g, e2⟩ | ⟨g, e2⟩ <;> rw [e2] <;> first | rfl | (exfalso; omega) | (simp only [Prod.mk.injEq]; omega)
theorem join_assoc (a b c d e f x y z : Int) : joinRegV (joinRegV a b c d e f).1 (joinRegV a b c d e f).2.1 (joinRegV a b c d e f).2.2 x y z = joinRegV a b c (joinRegV d e f x y z).1 (joinRegV d e f x y z).2.1 (joinRegV d e f x y z).2.2 := by
  rcases join_cases a b c d e f with ⟨h, e1⟩ | ⟨h, e1⟩ <;> rcases join_cases d e f x y z with ⟨g, e2⟩ | ⟨g, e2⟩ <;> rw [e1, e2] <;> simp only
  · rcases join_cases a b c x y z with ⟨k, e3⟩ | ⟨k, e3⟩ <;> rw [e3, e1] <;> first | rfl | (exfalso; omega) | (simp only [Prod.mk.injEq]; omega)
  · rw [e1]
  · rcases join_cases a b c x y z with ⟨k, e3⟩ | ⟨k, e3⟩ <;> rw [e3] <;> first | rfl | (exfalso; omega) | (simp only [Prod.mk.injEq]; omega)
theorem join_one (a b c d e f : Int) : joinRegV a b c d e f = (a, b, c) ∨ joinRegV a b c d e f = (d, e, f) := by
  rcases join_cases a b c d e f with ⟨_, e1⟩ | ⟨_, e1⟩
  · exact .inl e1
  · exact .inr e1
theorem put_next (a t y : Int) (h : 0 ≤ t ∧ t < 12) : putRegV a t y 7 (t + 1) 1 = (7, t + 1, 1) := by
  have h1 : laterV (t + 1) 1 t y = true := by unfold laterV; rw [if_neg (by omega), decide_eq_true (by omega)]
  have h2 : regV 7 (t + 1) 1 = true := by
    unfold regV stampV
    rw [decide_eq_true (by omega), decide_eq_true (by omega), decide_eq_true (by omega)]
    rfl
  unfold putRegV
  rw [if_pos h1, if_pos h2]
theorem put_old (t y : Int) : putRegV 7 (t + 1) 1 3 t y = (7, t + 1, 1) := by
  have h1 : ¬ laterV t y (t + 1) 1 = true := by
    unfold laterV
    rw [if_neg (by omega), decide_eq_false (by omega)]
    decide
  unfold putRegV
  rw [if_neg h1]
theorem FnRegs : laws_FnRegs.Pure := by
  intro b hb _ _
  have hb' : b.length ≤ 9223372036854775807 := by simpa [maxLen] using hb
  refine Ev.rounds (g := fun k => laws_FnRegs.f k b) ?_
  unfold laws_FnRegs.f laws_big.f
  simp only [Option.bind_some]
  by_cases hbig : (b.length : Int) > 1048576
  · simp only [decide_eq_true hbig, ↓reduceIte]
    exact Ev.now _
  · simp only [decide_eq_false hbig, Bool.false_eq_true, ↓reduceIte]
    obtain ⟨⟨a0, a1, a2, b0, b1, b2, c0, c1, c2⟩, e, _, hx, _⟩ := drawRegs_ok b hb'
    obtain ⟨⟨u0, u1, u2, u3, u4, u5⟩, e2⟩ := drawPutReg_ok b hb'
    simp only at hx
    refine Ev.bind e (Ev.bind (impl_JoinReg_ev a0 a1 a2 b0 b1 b2) (Ev.bind (impl_JoinReg_ev _ _ _ c0 c1 c2) (Ev.bind (impl_JoinReg_ev b0 b1 b2 c0 c1 c2) (Ev.bind (impl_JoinReg_ev a0 a1 a2 _ _ _) (Ev.bind e2 ?_)))))
    simp only [impl_PutReg_eq, spec_PutReg_eq, Option.bind_some]
    have hw : wrap64 (a1 + 1) = a1 + 1 := wrap_id (by omega) (by omega)
    rw [hw, put_next a0 a1 a2 ⟨hx.1, hx.2.1⟩]
    refine Ev.bind (impl_JoinReg_ev b0 b1 b2 a0 a1 a2) ?_
    rw [join_comm a0 a1 a2 b0 b1 b2, join_assoc]
    simp only [beq_self_eq_true, Bool.and_self, ↓reduceIte, put_old]
    refine Ev.bind (impl_JoinReg_ev _ _ _ a0 a1 a2) ?_
    rw [join_again]
    simp only [beq_self_eq_true, Bool.and_self, ↓reduceIte]
    rcases join_one a0 a1 a2 b0 b1 b2 with h | h
    · rw [h]
      simp only [beq_self_eq_true, Bool.and_self, ↓reduceIte]
      exact Ev.now _
    · rw [h]
      simp only [beq_self_eq_true, Bool.and_self, ↓reduceIte]
      split
      · exact Ev.now _
      · exact Ev.now _

end Go.Proofs.Ytdabhhlfnfjojaa.Pure
