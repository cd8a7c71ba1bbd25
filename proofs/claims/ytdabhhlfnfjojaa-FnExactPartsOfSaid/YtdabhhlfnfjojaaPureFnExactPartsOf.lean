/- The program's PartsOf returns what the reference's returns and owns its answer, for every line; the only bound is the row's own on a text's size. -/
import Derived.Test.YtdabhhlfnfjojaaPFnExactPartsOfx1
import Derived.Test.YtdabhhlfnfjojaaPFnExactPartsOfx2
import Derived.Test.YtdabhhlfnfjojaaPFnExactPartsOfx3
import Derived.Test.YtdabhhlfnfjojaaLib
import Derived.Test.YtdabhhlfnfjojaaLib2
import Derived.Test.YtdabhhlfnfjojaaLib3
import Derived.Test.YtdabhhlfnfjojaaLib4
import Derived.Test.YtdabhhlfnfjojaaLib5
namespace Go.Proofs.Ytdabhhlfnfjojaa.Pure
open Go.RowKit Go.Proofs.Ytdabhhlfnfjojaa.PFnExactPartsOf Go.Proofs.YtdabhhlfnfjojaaW.PrintWords Go.Proofs.YtdabhhlfnfjojaaW.PrintLast Go.Proofs.Ytdabhhlfnfjojaa.Lib
set_option linter.unusedVariables false
set_option linter.unusedSimpArgs false

theorem within_eq (x a b : Int) : impl_within.f x a b = some (decide (a ≤ x ∧ x ≤ b)) := by
  unfold impl_within.f
  by_cases h : a ≤ x
  · rw [if_pos h]; simp [h]
  · rw [if_neg h]; simp [h]
theorem spec_parts_l0 (t : ByteArray) (hn : t.size ≤ 600) (d : Nat) : ∀ (acc : List ByteArray) (b i : Nat), i + d = t.size + 1 → b ≤ i → acc.length ≤ i →
    Ev (fun k => spec_PartsOf.l0 k t acc (b : Int) (i : Int)) (partsV t d acc b i) := by
  induction d with
  | zero =>
    intro acc b i hi hb hl
    unfold partsV
    refine Ev.step (f := fun _ => if (acc.length : Int) > 10 then some (([] : List ByteArray), false) else some (acc, true)) (fun k => ?_) ?_
    · simp only [spec_PartsOf.l0]
      rw [if_neg (by omega)]
    · by_cases h : (acc.length : Int) > 10
      · simp only [if_pos h]
        exact Ev.now _
      · simp only [if_neg h]
        exact Ev.now _
  | succ d ih =>
    intro acc b i hi hb hl
    unfold partsV
    have ew : wrap64 ((i : Int) + 1) = ((i + 1 : Nat) : Int) := by rw [wrap_id (by omega) (by omega)]; omega
    have hbt := bt_range t (i : Int)
    have hm := byte_at t i
    rw [hm] at hbt
    generalize btN t i = c at hbt hm ⊢
    -- the second test: is it no blank?
    have second : ∀ e : Bool, Ev (fun k => spec_PartsOf.j2 k t acc (b : Int) (i : Int) e) (if e = true then partsV t d acc b (i + 1) else if b < i then partsV t d (acc ++ [t.extract b i]) (i + 1) (i + 1) else partsV t d acc (i + 1) (i + 1)) := by
      intro e
      cases e with
      | true =>
        refine Ev.step (f := fun k => spec_PartsOf.l0 k t acc (b : Int) ((i + 1 : Nat) : Int)) (fun k => ?_) (ih acc b (i + 1) (by omega) (by omega) (by omega))
        simp only [spec_PartsOf.j2]
        rw [if_pos (by trivial), ew]
      | false =>
        by_cases hlt : b < i
        · simp only [Bool.false_eq_true, ↓reduceIte, if_pos hlt]
          refine Ev.step (f := fun k => spec_PartsOf.l0 k t (acc ++ [t.extract b i]) ((i + 1 : Nat) : Int) ((i + 1 : Nat) : Int)) (fun k => ?_) (ih _ (i + 1) (i + 1) (by omega) (by omega) (by simp; omega))
          simp only [spec_PartsOf.j2]
          rw [if_neg (by simp), if_pos (by omega), if_pos (by omega), if_pos (by omega), if_pos (by omega), if_pos (by omega), ew]
          simp only [Int.toNat_natCast]
        · simp only [Bool.false_eq_true, ↓reduceIte, if_neg hlt]
          refine Ev.step (f := fun k => spec_PartsOf.l0 k t acc ((i + 1 : Nat) : Int) ((i + 1 : Nat) : Int)) (fun k => ?_) (ih _ (i + 1) (i + 1) (by omega) (by omega) (by omega))
          simp only [spec_PartsOf.j2]
          rw [if_neg (by simp), if_neg (by omega), ew]
    by_cases hlt : i < t.size
    · by_cases hbad : c < 32 ∨ c > 126
      · rw [if_pos ⟨hlt, hbad⟩]
        refine Ev.step (f := fun k => spec_PartsOf.j1 k t acc (b : Int) (i : Int) true) (fun k => ?_) ?_
        · simp only [spec_PartsOf.l0]
          rw [if_pos (by omega), if_pos (by omega), if_pos (by omega), hm]
          rcases hbad with hbad | hbad
          · rw [if_pos (by omega)]
          · rw [if_neg (by omega), decide_eq_true (by omega)]
        · refine Ev.step (f := fun _ => some (([] : List ByteArray), false)) (fun k => ?_) (Ev.now _)
          simp only [spec_PartsOf.j1]
          rw [if_pos (by trivial)]
      · rw [if_neg (fun h => hbad h.2)]
        refine Ev.step (f := fun k => spec_PartsOf.j1 k t acc (b : Int) (i : Int) false) (fun k => ?_) ?_
        · simp only [spec_PartsOf.l0]
          rw [if_pos (by omega), if_pos (by omega), if_pos (by omega), hm, if_neg (by omega), decide_eq_false (by omega)]
        · have h2 := second ((c : Int) != 32)
          refine Ev.step (f := fun k => spec_PartsOf.j2 k t acc (b : Int) (i : Int) ((c : Int) != 32)) (fun k => ?_) ?_
          · simp only [spec_PartsOf.j1]
            rw [if_neg (by simp), if_pos (by omega), if_pos (by omega), hm]
          · by_cases hc : c = 32
            · rw [if_neg (fun h => h.2 hc)]
              have e : ((c : Int) != 32) = false := by subst hc; rfl
              rw [e] at h2 ⊢
              simpa using h2
            · rw [if_pos ⟨hlt, hc⟩]
              have e : ((c : Int) != 32) = true := by rw [bne_iff_ne]; omega
              rw [e] at h2 ⊢
              simpa using h2
    · rw [if_neg (fun h => hlt h.1), if_neg (fun h => hlt h.1)]
      refine Ev.step (f := fun k => spec_PartsOf.j1 k t acc (b : Int) (i : Int) false) (fun k => ?_) ?_
      · simp only [spec_PartsOf.l0]
        rw [if_pos (by omega), if_neg (by omega)]
      · have h2 := second false
        refine Ev.step (f := fun k => spec_PartsOf.j2 k t acc (b : Int) (i : Int) false) (fun k => ?_) (by simpa using h2)
        simp only [spec_PartsOf.j1]
        rw [if_neg (by simp), if_neg (by omega)]
theorem spec_PartsOf_ev (t : ByteArray) : Ev (fun k => spec_PartsOf.f k t) (partsOfV t) := by
  unfold spec_PartsOf.f partsOfV
  simp only [Option.bind_some]
  by_cases h : (t.size : Int) > 600
  · simp only [if_pos h]
    exact Ev.now _
  · simp only [if_neg h]
    exact spec_parts_l0 t (by omega) (t.size + 1) [] 0 0 (by omega) (by omega) (by simp)
theorem impl_parts_l0 (t : ByteArray) (hn : t.size ≤ 600) (d : Nat) : ∀ (acc : List ByteArray) (b i : Nat) (f : Int), i + d = t.size + 1 → (f = -1 ∧ b = i) ∨ (f = (b : Int) ∧ b < i) → acc.length ≤ i →
    Ev (fun k => impl_PartsOf.l0 k t acc f (i : Int)) (partsV t d acc b i) := by
  induction d with
  | zero =>
    intro acc b i f hi hb hl
    unfold partsV
    refine Ev.step (f := fun _ => if (acc.length : Int) > 10 then some (([] : List ByteArray), false) else some (acc, true)) (fun k => ?_) ?_
    · simp only [impl_PartsOf.l0]
      rw [if_neg (by omega)]
    · by_cases h : (acc.length : Int) > 10
      · simp only [if_pos h]
        exact Ev.now _
      · simp only [if_neg h]
        exact Ev.now _
  | succ d ih =>
    intro acc b i f hi hb hl
    unfold partsV
    have ew : wrap64 ((i : Int) + 1) = ((i + 1 : Nat) : Int) := by rw [wrap_id (by omega) (by omega)]; omega
    have hbt := bt_range t (i : Int)
    have hm := byte_at t i
    rw [hm] at hbt
    generalize btN t i = c at hbt hm ⊢
    have blank : Ev (fun k => impl_PartsOf.j2 k t acc f (i : Int) true) (if b < i then partsV t d (acc ++ [t.extract b i]) (i + 1) (i + 1) else partsV t d acc (i + 1) (i + 1)) := by
      refine Ev.step (f := fun k => impl_PartsOf.j3 k t acc f (i : Int) true false) (fun k => ?_) ?_
      · simp only [impl_PartsOf.j2]
        rw [if_pos (by trivial)]
      · by_cases hlt : b < i
        · rw [if_pos hlt]
          have hf : f = (b : Int) := by omega
          refine Ev.step (f := fun k => impl_PartsOf.l0 k t (acc ++ [t.extract b i]) (-1) ((i + 1 : Nat) : Int)) (fun k => ?_) (ih _ (i + 1) (i + 1) (-1) (by omega) (.inl ⟨rfl, rfl⟩) (by simp; omega))
          subst hf
          simp only [impl_PartsOf.j3]
          rw [if_neg (by simp), if_pos (by trivial), if_pos (by omega), if_pos (by omega), if_pos (by omega), if_pos (by omega), if_pos (by omega), ew]
          simp only [Int.toNat_natCast]
        · rw [if_neg hlt]
          have hf : f = -1 := by omega
          refine Ev.step (f := fun k => impl_PartsOf.l0 k t acc (-1) ((i + 1 : Nat) : Int)) (fun k => ?_) (ih _ (i + 1) (i + 1) (-1) (by omega) (.inl ⟨rfl, rfl⟩) (by omega))
          subst hf
          simp only [impl_PartsOf.j3]
          rw [if_neg (by simp), if_pos (by trivial), if_neg (by omega), ew]
    have solid : Ev (fun k => impl_PartsOf.j2 k t acc f (i : Int) false) (partsV t d acc b (i + 1)) := by
      refine Ev.step (f := fun k => impl_PartsOf.j3 k t acc f (i : Int) false (decide (f < 0))) (fun k => ?_) ?_
      · simp only [impl_PartsOf.j2]
        rw [if_neg (by simp)]
      · rcases hb with ⟨rfl, rfl⟩ | ⟨rfl, hb⟩
        · refine Ev.step (f := fun k => impl_PartsOf.l0 k t acc (b : Int) ((b + 1 : Nat) : Int)) (fun k => ?_) (ih acc b (b + 1) _ (by omega) (.inr ⟨rfl, by omega⟩) (by omega))
          simp only [impl_PartsOf.j3]
          rw [if_pos (by decide), if_neg (by simp), ew]
        · refine Ev.step (f := fun k => impl_PartsOf.l0 k t acc (b : Int) ((i + 1 : Nat) : Int)) (fun k => ?_) (ih acc b (i + 1) _ (by omega) (.inr ⟨rfl, by omega⟩) (by omega))
          simp only [impl_PartsOf.j3]
          rw [if_neg (by simp <;> omega), if_neg (by simp), ew]
    by_cases hlt : i < t.size
    · by_cases hbad : c < 32 ∨ c > 126
      · rw [if_pos ⟨hlt, hbad⟩]
        refine Ev.step (f := fun k => impl_PartsOf.j1 k t acc f (i : Int) true) (fun k => ?_) ?_
        · simp only [impl_PartsOf.l0]
          rw [if_pos (by omega), if_pos (by omega), if_pos (by omega), hm, wrap_id (by omega) (by omega), within_eq, decide_eq_false (by omega)]
          rfl
        · refine Ev.step (f := fun _ => some (([] : List ByteArray), false)) (fun k => ?_) (Ev.now _)
          simp only [impl_PartsOf.j1]
          rw [if_pos (by trivial)]
      · rw [if_neg (fun h => hbad h.2)]
        refine Ev.step (f := fun k => impl_PartsOf.j1 k t acc f (i : Int) false) (fun k => ?_) ?_
        · simp only [impl_PartsOf.l0]
          rw [if_pos (by omega), if_pos (by omega), if_pos (by omega), hm, wrap_id (by omega) (by omega), within_eq, decide_eq_true (by omega)]
          rfl
        · refine Ev.step (f := fun k => impl_PartsOf.j2 k t acc f (i : Int) ((c : Int) == 32)) (fun k => ?_) ?_
          · simp only [impl_PartsOf.j1]
            rw [if_neg (by simp), if_neg (by omega), if_pos (by omega), if_pos (by omega), hm]
          · by_cases hc : c = 32
            · rw [if_neg (fun h => h.2 hc)]
              have e : ((c : Int) == 32) = true := by subst hc; rfl
              rw [e]
              exact blank
            · rw [if_pos ⟨hlt, hc⟩]
              have e : ((c : Int) == 32) = false := by rw [beq_eq_false_iff_ne]; omega
              rw [e]
              exact solid
    · rw [if_neg (fun h => hlt h.1), if_neg (fun h => hlt h.1)]
      refine Ev.step (f := fun k => impl_PartsOf.j1 k t acc f (i : Int) false) (fun k => ?_) ?_
      · simp only [impl_PartsOf.l0]
        rw [if_pos (by omega), if_neg (by omega)]
      · refine Ev.step (f := fun k => impl_PartsOf.j2 k t acc f (i : Int) true) (fun k => ?_) blank
        simp only [impl_PartsOf.j1]
        rw [if_neg (by simp), if_pos (by omega)]
theorem impl_PartsOf_ev (t : ByteArray) : Ev (fun k => impl_PartsOf.f k t) (partsOfV t) := by
  unfold impl_PartsOf.f partsOfV
  by_cases h : (t.size : Int) > 600
  · simp only [if_pos h]
    exact Ev.now _
  · simp only [if_neg h]
    exact impl_parts_l0 t (by omega) (t.size + 1) [] 0 0 (-1) (by omega) (.inl ⟨rfl, rfl⟩) (by simp)
theorem eqStringS_ev (l : List ByteArray) (hn : l.length ≤ 9223372036854775807) : Ev (fun k => laws_eqStringS.f k l l) true := by
  unfold laws_eqStringS.f
  simp only [↓reduceIte]
  have key := ev_down (P := fun i => Ev (fun k => laws_eqStringS.l0 k l l (i : Int)) true) l.length ?_ ?_
  · simpa using key
  · refine Ev.step (f := fun _ => some true) (fun k => ?_) (Ev.now _)
    simp only [laws_eqStringS.l0]
    rw [if_neg (by omega)]
  · intro i hi h
    refine Ev.step (f := fun k => laws_eqStringS.l0 k l l ((i + 1 : Nat) : Int)) (fun k => ?_) h
    simp only [laws_eqStringS.l0]
    rw [if_pos (by omega), if_pos (by omega), if_pos (by omega), if_pos (by trivial), wrap_id (by omega) (by omega)]
    rfl
def markTextV (n : Nat) : ByteArray := (⟨#[109]⟩ : ByteArray) ++ strOfNums (dec n)
theorem markText_l0 (d : Nat) : ∀ (m : Nat) (acc : ByteArray), m < 10 ^ d → acc.size + d ≤ 1000 → m ≤ 9223372036854775807 →
    Ev (fun k => laws_markText.l0 k (m : Int) acc) ((⟨#[109]⟩ : ByteArray) ++ (strOfNums (dec m) ++ acc)) := by
  induction d with
  | zero =>
    intro m acc h hl hn
    rw [Nat.pow_zero] at h
    obtain rfl : m = 0 := by omega
    refine Ev.step (f := fun _ => some ((⟨#[109]⟩ : ByteArray) ++ acc)) (fun k => ?_) ?_
    · simp only [laws_markText.l0]
      rw [if_neg (by omega), if_pos (by omega)]
    · rw [dec_zero, str_nil_append]; exact Ev.now _
  | succ d ih =>
    intro m acc h hl hn
    by_cases hz : m = 0
    · subst hz
      refine Ev.step (f := fun _ => some ((⟨#[109]⟩ : ByteArray) ++ acc)) (fun k => ?_) ?_
      · simp only [laws_markText.l0]
        rw [if_neg (by omega), if_pos (by omega)]
      · rw [dec_zero, str_nil_append]; exact Ev.now _
    · have hd : m / 10 < 10 ^ d := by
        apply Nat.div_lt_of_lt_mul
        rw [Nat.pow_succ] at h
        omega
      have this := ih (m / 10) (strOfNums [((48 + m % 10 : Nat) : Int)] ++ acc) hd (by rw [ByteArray.size_append, strOfNums_size]; simp; omega) (by omega)
      rw [dec_pos hz, str_append_assoc]
      refine Ev.step (f := fun k => laws_markText.l0 k ((m / 10 : Nat) : Int) (strOfNums [((48 + m % 10 : Nat) : Int)] ++ acc)) (fun k => ?_) this
      simp only [laws_markText.l0]
      rw [if_pos (by omega), tmod_pos (by omega), tdiv_pos (by omega), wrap_id (x := 48 + (m : Int) % 10) (by omega) (by omega), wrap_id (by omega) (by omega), Int.emod_eq_of_lt (a := 48 + (m : Int) % 10) (by omega) (by omega)]
      simp only [Option.bind_some]
      rw [if_pos (by rw [strOfNums_size]; simp; omega)]
      rfl
theorem markText_ev (n : Nat) (h0 : 0 < n) (h1 : n ≤ 9223372036854775807) : Ev (fun k => laws_markText.f k (n : Int)) (markTextV n) := by
  unfold laws_markText.f markTextV
  have h : ¬ (n : Int) ≤ 0 := by omega
  simp only [if_neg h]
  have := markText_l0 20 n ⟨#[]⟩ (by omega) (by decide) (by omega)
  rw [str_append_nil] at this
  exact this
def marksT (a n : Nat) : List ByteArray := (List.range n).map (fun i => markTextV (a + i))
theorem marksT_length (a n : Nat) : (marksT a n).length = n := by simp [marksT]
theorem markStringS_ev (l : List ByteArray) (a : Nat) (hn : l.length ≤ 4194304) (h0 : 0 < a) (h1 : a ≤ 1000000000) :
    Ev (fun k => laws_markStringS.f k l (a : Int)) (((a + l.length : Nat) : Int), marksT a l.length) := by
  unfold laws_markStringS.f
  have key := ev_down (P := fun i => Ev (fun k => laws_markStringS.l0 k (marksT a i ++ l.drop i) ((a + i : Nat) : Int) (i : Int)) (((a + l.length : Nat) : Int), marksT a l.length)) l.length ?_ ?_
  · simpa [marksT] using key
  · simp only [List.drop_length, List.append_nil]
    refine Ev.step (f := fun _ => some (((a + l.length : Nat) : Int), marksT a l.length)) (fun k => ?_) (Ev.now _)
    simp only [laws_markStringS.l0]
    rw [if_neg (by rw [marksT_length]; omega)]
  · intro i hi h
    have hlen : (marksT a i ++ l.drop i).length = l.length := by rw [List.length_append, marksT_length, List.length_drop]; omega
    refine Ev.step (f := fun k => (laws_markText.f k ((a + i : Nat) : Int)).bind fun t => laws_markStringS.l0 k ((marksT a i ++ l.drop i).set i t) ((a + (i + 1) : Nat) : Int) ((i + 1 : Nat) : Int)) (fun k => ?_) (Ev.bind (markText_ev _ (by omega) (by omega)) ?_)
    · simp only [laws_markStringS.l0]
      rw [if_pos (by rw [hlen]; omega)]
      congr 1
      funext t
      rw [if_pos (by omega), wrap_id (by omega) (by omega), wrap_id (by omega) (by omega), Int.toNat_natCast]
      rfl
    · have hs : (marksT a i ++ l.drop i).set i (markTextV (a + i)) = marksT a (i + 1) ++ l.drop (i + 1) := by
        rw [List.set_append_right _ _ (by rw [marksT_length]; omega), marksT_length, Nat.sub_self, List.drop_eq_getElem_cons hi, List.set_cons_zero]
        simp only [marksT, List.range_succ, List.map_append, List.map_cons, List.map_nil, List.append_assoc, List.singleton_append]
      rw [hs]
      exact h
theorem heldStringS_ev (n a : Nat) (hn : n ≤ 4194304) (h0 : 0 < a) (h1 : a ≤ 1000000000) : Ev (fun k => laws_heldStringS.f k (marksT a n) (a : Int)) ((a + n : Nat) : Int) := by
  unfold laws_heldStringS.f
  have key := ev_down (P := fun i => Ev (fun k => laws_heldStringS.l0 k (marksT a n) ((a + i : Nat) : Int) (i : Int)) ((a + n : Nat) : Int)) n ?_ ?_
  · simpa using key
  · refine Ev.step (f := fun _ => some ((a + n : Nat) : Int)) (fun k => ?_) (Ev.now _)
    simp only [laws_heldStringS.l0]
    rw [if_neg (by rw [marksT_length]; omega)]
  · intro i hi h
    have hx : rdOf ByteArray.empty (marksT a n) (i : Int) = markTextV (a + i) := by
      have := getD_at ByteArray.empty (marksT a n) i (by rw [marksT_length]; exact hi)
      rw [show rdOf ByteArray.empty (marksT a n) (i : Int) = (marksT a n).getD ((i : Int)).toNat ByteArray.empty from rfl, this]
      simp [marksT]
    refine Ev.step (f := fun k => (laws_markText.f k ((a + i : Nat) : Int)).bind fun t => if (markTextV (a + i)).toList = t.toList then laws_heldStringS.l0 k (marksT a n) ((a + (i + 1) : Nat) : Int) ((i + 1 : Nat) : Int) else some (-1)) (fun k => ?_) (Ev.bind (markText_ev _ (by omega) (by omega)) ?_)
    · simp only [laws_heldStringS.l0]
      rw [if_pos (by rw [marksT_length]; omega), if_pos (by omega), hx, wrap_id (by omega) (by omega), wrap_id (by omega) (by omega)]
      rfl
    · simp only [↓reduceIte]
      exact h

theorem FnExactPartsOf : laws_FnExactPartsOf.Pure := by
  intro a hn
  refine Ev.rounds (g := fun k => laws_FnExactPartsOf.f k a) ?_
  unfold laws_FnExactPartsOf.f
  by_cases hbig : (a.size : Int) > 1048576
  · simp only [if_pos hbig]
    exact Ev.now _
  · simp only [if_neg hbig]
    have hl := partsOfV_length a
    have he := eqStringS_ev (partsOfV a).1 (by omega)
    have hi := impl_PartsOf_ev a
    refine Ev.bind (spec_PartsOf_ev a) (Ev.bind hi (Ev.bind he ?_))
    simp only [bne_self_eq_false, ↓reduceIte]
    refine Ev.step (f := fun k => (laws_markStringS.f k (partsOfV a).1 1).bind fun b => (laws_heldStringS.f k b.2 1).bind fun t => if t < 0 then none else if t = b.1 then (impl_PartsOf.f k a).bind fun c => (laws_eqStringS.f k c.1 (partsOfV a).1).bind fun q => if q = true then laws_FnExactPartsOf.j1 k b.2 b.1 (c.2 != (partsOfV a).2) else laws_FnExactPartsOf.j1 k b.2 b.1 true else none) (fun k => ?_) ?_
    · simp only [laws_FnExactPartsOf.j0]
      rw [if_neg (by simp)]
    · have hh := heldStringS_ev (partsOfV a).1.length 1 (by omega) (by decide) (by decide)
      have hneg : ¬ (((1 + (partsOfV a).1.length : Nat) : Int) < 0) := by omega
      refine Ev.bind (markStringS_ev _ 1 (by omega) (by decide) (by decide)) (Ev.bind hh ?_)
      simp only [if_neg hneg, ↓reduceIte]
      refine Ev.bind hi (Ev.bind he ?_)
      simp only [bne_self_eq_false, ↓reduceIte]
      refine Ev.step (f := fun k => (laws_heldStringS.f k (marksT 1 (partsOfV a).1.length) 1).bind fun s => if s < 0 then none else if s = ((1 + (partsOfV a).1.length : Nat) : Int) then some true else none) (fun k => ?_) (Ev.bind hh ?_)
      · simp only [laws_FnExactPartsOf.j1]
        rw [if_neg (by simp)]
      · simp only [if_neg hneg, ↓reduceIte]
        exact Ev.now _

end Go.Proofs.Ytdabhhlfnfjojaa.Pure
