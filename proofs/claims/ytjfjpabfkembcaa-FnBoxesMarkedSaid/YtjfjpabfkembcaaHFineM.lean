/- What FnFlags says, on lists alone. No program in it. Boxes as they are drawn: what stays right when a mail is put in, marked or taken out. No program in it. A text picked from a list, with what is known of each; a number looked for in a list: the walks. -/
import Derived.Test.YtjfjpabfkembcaaHJoinM
import Derived.Test.YtjfjpabfkembcaaHFlagsOf
import Derived.Test.YtjfjpabfkembcaaHDrawM
import Derived.Test.YtjfjpabfkembcaaHPutIn
namespace Go.Proofs.Ytjfjpabfkembcaa.H
open Go.RowKit
set_option linter.unusedVariables false
set_option linter.unusedSimpArgs false
/-! What FnFlags says, on lists alone. No program in it. -/
theorem joinReg_mk (a b : Reg) : joinReg a b = if b.t > a.t ∨ (b.t = a.t ∧ (b.b > a.b ∨ (b.b = a.b ∧ b.v > a.v))) then b else a := by
  obtain ⟨av, at_, ab⟩ := a
  obtain ⟨bv, bt, bb⟩ := b
  unfold joinReg later
  dsimp only
  by_cases h1 : at_ < bt <;> by_cases h2 : bt < at_ <;> by_cases h3 : at_ = bt <;> by_cases h4 : ab < bb <;> by_cases h5 : bb < ab <;> by_cases h6 : ab = bb <;> by_cases h7 : av < bv <;>
    simp [h1, h2, h3, h4, h5, h6, h7, eq_comm] <;> omega
theorem reg_ext {a b : Reg} (h1 : a.v = b.v) (h2 : a.t = b.t) (h3 : a.b = b.b) : a = b := by
  obtain ⟨av, at_, ab⟩ := a
  obtain ⟨bv, bt, bb⟩ := b
  dsimp only at *
  subst h1 h2 h3
  rfl
theorem joinReg_comm (a b : Reg) : joinReg b a = joinReg a b := by
  rw [joinReg_mk, joinReg_mk]
  split <;> split
  · omega
  · rfl
  · rfl
  · exact reg_ext (by omega) (by omega) (by omega)
theorem joinReg_abs (a b : Reg) : joinReg (joinReg a b) a = joinReg a b := by
  rw [joinReg_mk a b]
  split
  · rw [joinReg_mk, if_neg (by omega)]
  · rw [joinReg_mk, if_neg (by omega)]
theorem joinReg_assoc (a b c : Reg) : joinReg (joinReg a b) c = joinReg a (joinReg c b) := by
  rw [joinReg_mk a b, joinReg_mk c b]
  split <;> split <;> (simp only [joinReg_mk]) <;> (repeat' split) <;> first | rfl | (exfalso; omega) | exact reg_ext (by omega) (by omega) (by omega)
theorem list3 {α : Type} {l : List α} (h : l.length = 3) : ∃ a b c, l = [a, b, c] := by
  match l, h with
  | [a, b, c], _ => exact ⟨a, b, c, rfl⟩
theorem joinFlags3 (a b c d e f : Reg) : joinFlags [a, b, c] [d, e, f] = [joinReg a d, joinReg b e, joinReg c f] := rfl
theorem joinReg_or (a b : Reg) : joinReg a b = a ∨ joinReg a b = b := by
  rw [joinReg_mk]
  split
  · exact .inr rfl
  · exact .inl rfl
theorem drawn_join {a b : Reg} (ha : flagDrawn a) (hb : flagDrawn b) : flagDrawn (joinReg a b) := by
  rcases joinReg_or a b with h | h <;> rw [h] <;> assumption
theorem drawn_ok {r : Reg} (h : flagDrawn r) : flagOk r = true := by
  obtain ⟨h1, h2, h3, h4, h5, h6⟩ := h
  unfold flagOk regOk stampOk
  rw [isIn_yes (by omega) (by omega), isIn_yes (by omega) (by omega), isIn_yes (by omega) (by omega), decide_eq_true (by omega)]
  rfl
/-- A flag that is set by a late stamp. -/
def setR (n : Int) (i : Nat) (r : Reg) : Reg := if r.v = bitAt n i then r else ⟨bitAt n i, 50, 2⟩
theorem put_late {r : Reg} (h : flagDrawn r) (v : Int) (hv : 0 ≤ v ∧ v ≤ 1) : putReg r v 50 2 = ⟨v, 50, 2⟩ := by
  obtain ⟨h1, h2, h3, h4, h5, h6⟩ := h
  have e1 : later 50 2 r.t r.b = true := by unfold later; rw [decide_eq_true (by omega)]; rfl
  have e2 : regOk ⟨v, 50, 2⟩ = true := by
    unfold regOk stampOk
    rw [isIn_yes (by dsimp only; omega) (by dsimp only; omega), isIn_yes (by dsimp only; omega) (by dsimp only; omega), isIn_yes (by dsimp only; omega) (by dsimp only; omega)]
    rfl
  unfold putReg
  rw [e1, e2]
  rfl
theorem setFlags3 {a b c : Reg} (ha : flagDrawn a) (hb : flagDrawn b) (hc : flagDrawn c) (n : Int) (h0 : 0 ≤ n) (h7 : n ≤ 7) : setFlags [a, b, c] n 50 2 = [setR n 0 a, setR n 1 b, setR n 2 c] := by
  have hok : flagsOk [a, b, c] = true := by
    unfold flagsOk
    simp only [flagsAll, drawn_ok ha, drawn_ok hb, drawn_ok hc]
    rfl
  unfold setFlags
  rw [hok, isIn_yes h0 h7, if_pos (by rfl)]
  simp only [setFrom, put_late ha _ (bitAt_in n 0), put_late hb _ (bitAt_in n (0 + 1)), put_late hc _ (bitAt_in n (0 + 1 + 1)), setR]
theorem setR_v {n : Int} {i : Nat} {r : Reg} : (setR n i r).v = bitAt n i := by
  unfold setR
  split
  · assumption
  · rfl
theorem bits3 (n : Int) (h0 : 0 ≤ n) (h7 : n ≤ 7) : bitAt n 0 % 2 * 2 ^ 0 + bitAt n 1 % 2 * 2 ^ 1 + bitAt n 2 % 2 * 2 ^ 2 = n := by
  rcases (show n = 0 ∨ n = 1 ∨ n = 2 ∨ n = 3 ∨ n = 4 ∨ n = 5 ∨ n = 6 ∨ n = 7 by omega) with rfl | rfl | rfl | rfl | rfl | rfl | rfl | rfl <;> decide
theorem flagsOf3 (a b c : Reg) : flagsOf [a, b, c] = a.v % 2 * 2 ^ 0 + b.v % 2 * 2 ^ 1 + c.v % 2 * 2 ^ 2 := by
  unfold flagsOf
  simp [flagsFrom]
theorem flags_set {a b c : Reg} (n : Int) (h0 : 0 ≤ n) (h7 : n ≤ 7) : flagsOf [setR n 0 a, setR n 1 b, setR n 2 c] = n := by
  rw [flagsOf3, setR_v, setR_v, setR_v]
  exact bits3 n h0 h7
theorem join_set {a b : Reg} (ha : flagDrawn a) (hb : flagDrawn b) (n : Int) (i : Nat) : joinReg (setR n i (joinReg a b)) a = setR n i (joinReg a b) := by
  unfold setR
  split
  · exact joinReg_abs a b
  · obtain ⟨h1, h2, h3, h4, h5, h6⟩ := ha
    rw [joinReg_mk, if_neg (by dsimp only; omega)]
/-- All that FnFlags says of three drawn lists of flags. -/
theorem fnFlags_pure {la lb lc : List Reg} (ha : la.length = 3 ∧ ∀ r ∈ la, flagDrawn r) (hb : lb.length = 3 ∧ ∀ r ∈ lb, flagDrawn r) (hc : lc.length = 3 ∧ ∀ r ∈ lc, flagDrawn r) (n : Int) (h0 : 0 ≤ n) (h7 : n ≤ 7) :
    joinFlags lb la = joinFlags la lb ∧ joinFlags la (joinFlags lc lb) = joinFlags (joinFlags la lb) lc ∧ joinFlags (joinFlags la lb) la = joinFlags la lb ∧ flagsOf (setFlags (joinFlags la lb) n 50 2) = n ∧
      flagsOf (joinFlags (setFlags (joinFlags la lb) n 50 2) la) = n ∧ flagsOk (joinFlags la lb) = true ∧ flagsOf (flagsNew n 0 0) = n := by
  obtain ⟨a0, a1, a2, rfl⟩ := list3 ha.1
  obtain ⟨b0, b1, b2, rfl⟩ := list3 hb.1
  obtain ⟨c0, c1, c2, rfl⟩ := list3 hc.1
  have hA := ha.2
  have hB := hb.2
  simp only [List.mem_cons, List.not_mem_nil, or_false, forall_eq_or_imp, forall_eq] at hA hB
  obtain ⟨hA0, hA1, hA2⟩ := hA
  obtain ⟨hB0, hB1, hB2⟩ := hB
  simp only [joinFlags3]
  rw [setFlags3 (drawn_join hA0 hB0) (drawn_join hA1 hB1) (drawn_join hA2 hB2) n h0 h7]
  refine ⟨by rw [joinReg_comm a0, joinReg_comm a1, joinReg_comm a2], by rw [joinReg_assoc, joinReg_assoc, joinReg_assoc], by rw [joinReg_abs, joinReg_abs, joinReg_abs], flags_set n h0 h7, ?_, ?_, ?_⟩
  · rw [joinFlags3, join_set hA0 hB0, join_set hA1 hB1, join_set hA2 hB2]
    exact flags_set n h0 h7
  · unfold flagsOk
    simp only [flagsAll, drawn_ok (drawn_join hA0 hB0), drawn_ok (drawn_join hA1 hB1), drawn_ok (drawn_join hA2 hB2)]
    rfl
  · unfold flagsNew
    rw [flagsOf3]
    exact bits3 n h0 h7
theorem setFrom_len (n t b : Int) : ∀ (l : List Reg) (i : Nat), (setFrom n t b i l).length = l.length
  | [], _ => rfl
  | r :: l, i => by simp only [setFrom, List.length_cons, setFrom_len n t b l]
theorem setFlags_len (l : List Reg) (n t b : Int) (h : l.length ≤ 4000000) : (setFlags l n t b).length ≤ 4000000 := by
  unfold setFlags
  split
  · rw [setFrom_len]; exact h
  · exact h
/-! Boxes as they are drawn: what stays right when a mail is put in, marked or taken out. No program in it. -/
def gids (l : List Mail) : List Int := l.map (·.g)
def uids (l : List Mail) : List Int := l.map (·.u)
theorem mailAtFrom_none {g : Int} : ∀ {l : List Mail} {i : Int}, g ∉ gids l → mailAtFrom g i l = -1
  | [], _, _ => rfl
  | m :: l, i, h => by
    unfold gids at h
    rw [List.map_cons, List.mem_cons, not_or] at h
    unfold mailAtFrom
    rw [if_neg (fun e => h.1 e.symm)]
    exact mailAtFrom_none h.2
theorem mailAtFrom_nodup : ∀ {l : List Mail} {i : Int} (k : Nat) (hk : k < l.length), (gids l).Nodup → mailAtFrom l[k].g i l = i + k
  | m :: l, i, 0, _, _ => by
    unfold mailAtFrom
    rw [if_pos (by rfl)]
    simp
  | m :: l, i, k + 1, hk, h => by
    unfold gids at h
    rw [List.map_cons, List.nodup_cons] at h
    have hk2 : k < l.length := by simpa using hk
    have hm : (m :: l)[k + 1].g ∈ gids l := by
      rw [List.getElem_cons_succ]
      exact List.mem_map.2 ⟨_, List.getElem_mem hk2, rfl⟩
    unfold mailAtFrom
    rw [if_neg (fun e => h.1 (by rw [e]; exact hm)), List.getElem_cons_succ, mailAtFrom_nodup k hk2 h.2]
    push_cast
    omega
theorem mailAt_none {l : List Mail} {g : Int} (h : g ∉ gids l) : mailAt l g = -1 := mailAtFrom_none h
theorem mailAt_nodup {l : List Mail} (k : Nat) (hk : k < l.length) (h : (gids l).Nodup) : mailAt l l[k].g = k := by
  have := mailAtFrom_nodup (i := 0) k hk h
  unfold mailAt
  omega
/-- A place is told once: no number stands twice. -/
theorem nodup_of_at {l : List Mail} (h : ∀ k (hk : k < l.length), mailAt l l[k].g = k) : (gids l).Nodup := by
  unfold gids List.Nodup
  rw [List.pairwise_iff_getElem]
  intro a c ha hc hac e
  rw [List.length_map] at ha hc
  rw [List.getElem_map, List.getElem_map] at e
  have h1 := h a ha
  have h2 := h c hc
  rw [e] at h1
  omega
theorem mailsIn_iff {b : Box} : ∀ {l : List Mail} {i : Int} {p : Option Int}, mailsIn b i p l = true ↔
    ((∀ m ∈ l, mailOk m = true ∧ m.u < b.nx ∧ m.g ∉ b.go) ∧ ((uids l).Pairwise (· < ·) ∧ ∀ m ∈ l, above p m.u = true) ∧ ∀ k (hk : k < l.length), mailAt b.ml l[k].g = i + k)
  | [], i, p => by simp [mailsIn, uids]
  | m :: l, i, p => by
    unfold mailsIn
    rw [Bool.and_eq_true, mailsIn_iff]
    unfold mailIn
    simp only [Bool.and_eq_true, Bool.not_eq_true', decide_eq_true_eq]
    have hh : (has m.g b.go = false) ↔ m.g ∉ b.go := by
      rw [← has_mem]
      simp
    rw [hh]
    constructor
    · rintro ⟨⟨⟨⟨⟨h1, h2⟩, h3⟩, h4⟩, h5⟩, h6, ⟨h7, h8⟩, h9⟩
      have h8' : ∀ q ∈ l, m.u < q.u := fun q hq => by have := h8 q hq; simpa [above] using this
      refine ⟨?_, ⟨?_, ?_⟩, ?_⟩
      · intro q hq
        rcases List.mem_cons.1 hq with rfl | hq
        · exact ⟨h1, h2, h5⟩
        · exact h6 q hq
      · unfold uids
        rw [List.map_cons, List.pairwise_cons]
        refine ⟨fun x hx => ?_, h7⟩
        obtain ⟨q, hq, rfl⟩ := List.mem_map.1 hx
        exact h8' q hq
      · intro q hq
        rcases List.mem_cons.1 hq with rfl | hq
        · exact h3
        · cases p with
          | none => rfl
          | some z =>
            have h10 : z < m.u := by simpa [above] using h3
            have := h8' q hq
            show decide (z < q.u) = true
            rw [decide_eq_true_eq]
            omega
      · intro k hk
        cases k with
        | zero => simpa using h4
        | succ k =>
          have := h9 k (by simpa using hk)
          rw [List.getElem_cons_succ, this]
          push_cast
          omega
    · rintro ⟨h1, ⟨h2, h3⟩, h4⟩
      unfold uids at h2
      rw [List.map_cons, List.pairwise_cons] at h2
      have hm := h1 m (by simp)
      refine ⟨⟨⟨⟨⟨hm.1, hm.2.1⟩, h3 m (by simp)⟩, ?_⟩, hm.2.2⟩, fun q hq => h1 q (by simp [hq]), ⟨h2.2, fun q hq => ?_⟩, fun k hk => ?_⟩
      · have := h4 0 (by simp)
        simpa using this
      · have := h2.1 q.u (List.mem_map.2 ⟨q, hq, rfl⟩)
        simpa [above] using this
      · have := h4 (k + 1) (by simpa using hk)
        rw [List.getElem_cons_succ] at this
        rw [this]
        push_cast
        omega
theorem box_iff {b : Box} : boxOk b = true ↔ (boxHead b = true ∧ (∀ m ∈ b.ml, mailOk m = true ∧ m.u < b.nx ∧ m.g ∉ b.go) ∧ (uids b.ml).Pairwise (· < ·) ∧ (gids b.ml).Nodup) := by
  unfold boxOk
  rw [Bool.and_eq_true, mailsIn_iff]
  constructor
  · rintro ⟨h0, h1, ⟨h2, _⟩, h3⟩
    exact ⟨h0, h1, h2, nodup_of_at fun k hk => by have := h3 k hk; omega⟩
  · rintro ⟨h0, h1, h2, h3⟩
    exact ⟨h0, h1, ⟨h2, fun m _ => rfl⟩, fun k hk => by rw [mailAt_nodup k hk h3]; omega⟩
theorem gidsAll_of : ∀ {l : List Int} {p : Option Int}, (∀ x ∈ l, 1 ≤ x ∧ x ≤ 9999) → l.Pairwise (· < ·) → (∀ x ∈ l, above p x = true) → gidsAll p l = true
  | [], _, _, _, _ => rfl
  | x :: l, p, h1, h2, h3 => by
    rw [List.pairwise_cons] at h2
    unfold gidsAll
    rw [isIn_yes (h1 x (by simp)).1 (h1 x (by simp)).2, h3 x (by simp), gidsAll_of (fun y hy => h1 y (by simp [hy])) h2.2 (fun y hy => by show decide (x < y) = true; exact decide_eq_true (h2.1 y hy))]
    rfl
theorem sorted_len : ∀ {l : List Int} {lo : Int}, l.Pairwise (· < ·) → (∀ x ∈ l, lo ≤ x ∧ x ≤ 18) → (l.length : Int) ≤ if lo ≤ 18 then 19 - lo else 0
  | [], lo, _, _ => by split <;> simp <;> omega
  | x :: l, lo, h1, h2 => by
    rw [List.pairwise_cons] at h1
    have hx := h2 x (by simp)
    have := sorted_len (lo := x + 1) h1.2 (fun y hy => ⟨by have := h1.1 y hy; omega, (h2 y (by simp [hy])).2⟩)
    rw [if_pos (by omega)]
    rw [List.length_cons]
    push_cast
    split at this <;> omega
/-- A box as it is drawn. -/
def fineBox (b : Box) : Prop := boxOk b = true ∧ (∀ x ∈ b.go, 10 ≤ x ∧ x ≤ 18) ∧ ∀ m ∈ b.ml, ∀ r ∈ m.fl, flagDrawn r
theorem fine_gone {b : Box} (h : fineBox b) : b.go.length ≤ 9 := by
  have := sorted_len (box_gone h.1).1 h.2.1
  rw [if_pos (by decide)] at this
  omega
theorem drawn_mk {v t y : Int} (hv : 0 ≤ v ∧ v ≤ 1) (ht : 0 ≤ t ∧ t < 12) (hy : 1 ≤ y ∧ y ≤ 2) : flagDrawn ⟨v, t, y⟩ := ⟨hv.1, by show v < 2; omega, ht.1, ht.2, hy.1, hy.2⟩
theorem drawn_flagsOk {l : List Reg} (h : ∀ r ∈ l, flagDrawn r) (hl : l.length = 3) : flagsOk l = true := by
  have : flagsAll l = true := by
    clear hl
    induction l with
    | nil => rfl
    | cons r l ih => unfold flagsAll; rw [drawn_ok (h r (by simp)), ih fun q hq => h q (by simp [hq])]; rfl
  unfold flagsOk
  rw [this, decide_eq_true hl]
  rfl
theorem setFrom_drawn {n t y : Int} (ht : 0 ≤ t ∧ t < 12) (hy : 1 ≤ y ∧ y ≤ 2) : ∀ {l : List Reg} {i : Nat}, (∀ r ∈ l, flagDrawn r) → ∀ r ∈ setFrom n t y i l, flagDrawn r
  | [], _, _, r, hr => by cases hr
  | q :: l, i, h, r, hr => by
    unfold setFrom at hr
    rcases List.mem_cons.1 hr with rfl | hr
    · split
      · exact h q (by simp)
      · unfold putReg
        split
        · exact drawn_mk (bitAt_in n i) ht hy
        · exact h q (by simp)
    · exact setFrom_drawn ht hy (fun q hq => h q (by simp [hq])) r hr
theorem setFlags_drawn {n t y : Int} (ht : 0 ≤ t ∧ t < 12) (hy : 1 ≤ y ∧ y ≤ 2) {l : List Reg} (h : ∀ r ∈ l, flagDrawn r) : ∀ r ∈ setFlags l n t y, flagDrawn r := by
  unfold setFlags
  split
  · exact setFrom_drawn ht hy h
  · exact h
theorem setFlags_length (l : List Reg) (n t b : Int) : (setFlags l n t b).length = l.length := by
  unfold setFlags
  split
  · exact setFrom_len n t b l 0
  · rfl
theorem mem_modify {f : Mail → Mail} : ∀ {l : List Mail} {k : Nat} {m : Mail}, m ∈ l.modify k f → ∃ q ∈ l, m = q ∨ m = f q
  | [], k, m, h => by simp at h
  | q :: l, 0, m, h => by
    rw [List.modify_zero_cons] at h
    rcases List.mem_cons.1 h with rfl | h
    · exact ⟨q, by simp, .inr rfl⟩
    · exact ⟨m, by simp [h], .inl rfl⟩
  | q :: l, k + 1, m, h => by
    rw [List.modify_succ_cons] at h
    rcases List.mem_cons.1 h with rfl | h
    · exact ⟨m, by simp, .inl rfl⟩
    · obtain ⟨x, hx, h2⟩ := mem_modify h
      exact ⟨x, by simp [hx], h2⟩
theorem map_modify {β : Type} {f : Mail → Mail} {p : Mail → β} (hf : ∀ m, p (f m) = p m) : ∀ (l : List Mail) (k : Nat), (l.modify k f).map p = l.map p
  | [], k => by simp
  | q :: l, 0 => by rw [List.modify_zero_cons, List.map_cons, List.map_cons, hf]
  | q :: l, k + 1 => by rw [List.modify_succ_cons, List.map_cons, List.map_cons, map_modify hf l k]
theorem mailOk_fl {m : Mail} {fl : List Reg} (h : mailOk m = true) (hf : flagsOk fl = true) : mailOk { m with fl := fl } = true := by
  unfold mailOk at h ⊢
  simp only [Bool.and_eq_true] at h ⊢
  exact ⟨⟨h.1.1, hf⟩, h.2⟩
theorem mailOk_len {m : Mail} (h : mailOk m = true) : m.fl.length = 3 := by
  unfold mailOk flagsOk at h
  simp only [Bool.and_eq_true, decide_eq_true_eq] at h
  exact h.1.2.2
theorem fine_flag {b : Box} (h : fineBox b) (g n : Int) {t y : Int} (ht : 0 ≤ t ∧ t < 12) (hy : 1 ≤ y ∧ y ≤ 2) : fineBox (flagMail b g n t y).1 := by
  unfold flagMail
  split
  · obtain ⟨h1, h2, h3⟩ := h
    obtain ⟨k1, k2, k3, k4⟩ := box_iff.1 h1
    have hfl : ∀ m ∈ b.ml, ∀ r ∈ setFlags m.fl n t y, flagDrawn r := fun m hm => setFlags_drawn ht hy (h3 m hm)
    refine ⟨box_iff.2 ⟨?_, ?_, ?_, ?_⟩, h2, fun m hm => ?_⟩
    · unfold boxHead at k1 ⊢
      rw [List.length_modify]
      exact k1
    · intro m hm
      obtain ⟨q, hq, rfl | rfl⟩ := mem_modify hm
      · exact k2 m hq
      · obtain ⟨e1, e2, e3⟩ := k2 q hq
        exact ⟨mailOk_fl e1 (drawn_flagsOk (hfl q hq) (by rw [setFlags_length, mailOk_len e1])), e2, e3⟩
    · show ((b.ml.modify (mailAt b.ml g).toNat fun m => { m with fl := setFlags m.fl n t y }).map (·.u)).Pairwise (· < ·)
      rw [map_modify (f := fun m : Mail => { m with fl := setFlags m.fl n t y }) (p := (·.u)) (fun _ => rfl)]
      exact k3
    · show ((b.ml.modify (mailAt b.ml g).toNat fun m => { m with fl := setFlags m.fl n t y }).map (·.g)).Nodup
      rw [map_modify (f := fun m : Mail => { m with fl := setFlags m.fl n t y }) (p := (·.g)) (fun _ => rfl)]
      exact k4
    · obtain ⟨q, hq, rfl | rfl⟩ := mem_modify hm
      · exact h3 m hq
      · exact hfl q hq
  · exact h
theorem fine_add {b : Box} (h : fineBox b) (g f : Int) (tx : ByteArray) {t y : Int} (ht : 0 ≤ t ∧ t < 12) (hy : 1 ≤ y ∧ y ≤ 2) : fineBox (addMail b g f tx t y).1 := by
  unfold addMail
  split
  · dsimp only
    split
    · next hk =>
      refine ⟨hk, h.2.1, fun m hm => ?_⟩
      rw [List.mem_append, List.mem_singleton] at hm
      rcases hm with hm | rfl
      · exact h.2.2 m hm
      · intro r hr
        unfold flagsNew at hr
        simp only [List.mem_cons, List.not_mem_nil, or_false] at hr
        rcases hr with rfl | rfl | rfl <;> exact drawn_mk (bitAt_in f _) ht hy
    · exact h
  · exact h
theorem erase_not {α : Type} : ∀ {l : List α} {k : Nat} (hk : k < l.length), l.Nodup → l[k] ∉ l.eraseIdx k
  | x :: l, 0, _, h => by
    rw [List.nodup_cons] at h
    simpa using h.1
  | x :: l, k + 1, hk, h => by
    rw [List.nodup_cons] at h
    have hk2 : k < l.length := by simpa using hk
    rw [List.getElem_cons_succ, List.eraseIdx_cons_succ, List.mem_cons, not_or]
    exact ⟨fun e => h.1 (e ▸ List.getElem_mem hk2), erase_not hk2 h.2⟩
theorem map_erase {α β : Type} (p : α → β) : ∀ (l : List α) (k : Nat), (l.eraseIdx k).map p = (l.map p).eraseIdx k
  | [], k => by simp
  | x :: l, 0 => by simp
  | x :: l, k + 1 => by simp [map_erase p l k]
theorem fine_take {b : Box} (h : fineBox b) {g : Int} (hg : 10 ≤ g ∧ g ≤ 18) : fineBox (takeOut b g).1 := by
  unfold takeOut
  split
  · next hc =>
    simp only [Bool.and_eq_true, decide_eq_true_eq] at hc
    obtain ⟨h1, h2, h3⟩ := h
    obtain ⟨k1, k2, k3, k4⟩ := box_iff.1 h1
    obtain ⟨k, hk⟩ := Int.eq_ofNat_of_zero_le hc.1.2
    obtain ⟨hlt, hgk⟩ := mailAt_get hk
    rw [hk, Int.toNat_natCast]
    have hgone := (box_gone h1).1
    have hsub : (b.ml.eraseIdx k).Sublist b.ml := List.eraseIdx_sublist _ _
    have hne : ∀ m ∈ b.ml.eraseIdx k, m.g ≠ g := fun m hm e => by
      have hn := erase_not (l := gids b.ml) (k := k) (by unfold gids; rw [List.length_map]; exact hlt) k4
      apply hn
      have e2 : (gids b.ml)[k]'(by unfold gids; rw [List.length_map]; exact hlt) = g := by unfold gids; rw [List.getElem_map]; exact hgk
      rw [e2, ← e]
      unfold gids
      rw [← map_erase]
      exact List.mem_map.2 ⟨m, hm, rfl⟩
    refine ⟨box_iff.2 ⟨?_, ?_, ?_, ?_⟩, fun x hx => ?_, fun m hm => h3 m (hsub.subset hm)⟩
    · unfold boxHead gidsOk at k1 ⊢
      simp only [Bool.and_eq_true, decide_eq_true_eq] at k1 ⊢
      obtain ⟨⟨e1, e2⟩, e3, e4⟩ := k1
      have hml := List.length_eraseIdx_le b.ml k
      refine ⟨⟨e1, by omega⟩, gidsAll_of (fun x hx => ?_) (putIn_sorted hgone) (fun _ _ => rfl), ?_⟩
      · rcases putIn_mem.1 hx with hx | rfl
        · have := h2 x hx; omega
        · omega
      · have hfr : g ∉ b.go := by rw [← hgk]; exact (k2 _ (List.getElem_mem hlt)).2.2
        have := (putIn_perm hfr).length_eq
        rw [List.length_append, List.length_singleton] at this
        have := hc.2
        omega
    · intro m hm
      obtain ⟨e1, e2, e3⟩ := k2 m (hsub.subset hm)
      exact ⟨e1, e2, fun hx => by rcases putIn_mem.1 hx with hx | hx; exact e3 hx; exact hne m hm hx⟩
    · exact List.Pairwise.sublist (hsub.map _) k3
    · exact List.Pairwise.sublist (hsub.map _) k4
    · rcases putIn_mem.1 hx with hx | rfl
      · exact h2 x hx
      · exact hg
  · exact h
/-! ### what the statement asks of such a box -/
theorem put_60 {r : Reg} (h : flagDrawn r) (v : Int) (hv : 0 ≤ v ∧ v ≤ 1) : putReg r v 60 1 = ⟨v, 60, 1⟩ := by
  obtain ⟨h1, h2, h3, h4, h5, h6⟩ := h
  have e1 : later 60 1 r.t r.b = true := by unfold later; rw [decide_eq_true (by omega)]; rfl
  have e2 : regOk ⟨v, 60, 1⟩ = true := by
    unfold regOk stampOk
    rw [isIn_yes (by dsimp only; omega) (by dsimp only; omega), isIn_yes (by dsimp only; omega) (by dsimp only; omega), isIn_yes (by dsimp only; omega) (by dsimp only; omega)]
    rfl
  unfold putReg
  rw [e1, e2]
  rfl
theorem flagsOf_60 {l : List Reg} (h : ∀ r ∈ l, flagDrawn r) (hl : l.length = 3) (n : Int) (h0 : 0 ≤ n) (h7 : n ≤ 7) : flagsOf (setFlags l n 60 1) = n := by
  have hok := drawn_flagsOk h hl
  obtain ⟨a, b, c, rfl⟩ := list3 hl
  simp only [List.mem_cons, List.not_mem_nil, or_false, forall_eq_or_imp, forall_eq] at h
  obtain ⟨ha, hb, hc⟩ := h
  unfold setFlags
  rw [hok, isIn_yes h0 h7, if_pos (by rfl)]
  simp only [setFrom, put_60 ha _ (bitAt_in n 0), put_60 hb _ (bitAt_in n (0 + 1)), put_60 hc _ (bitAt_in n (0 + 1 + 1))]
  have hv : ∀ (r : Reg) (i : Nat), (if r.v = bitAt n i then r else ⟨bitAt n i, 60, 1⟩ : Reg).v = bitAt n i := fun r i => by
    split
    · assumption
    · rfl
  rw [flagsOf3, hv, hv, hv]
  exact bits3 n h0 h7
theorem fine_len {b : Box} (h : fineBox b) : b.ml.length ≤ 10 := by
  have := (box_iff.1 h.1).1
  unfold boxHead at this
  simp only [Bool.and_eq_true, decide_eq_true_eq] at this
  exact this.1.2
theorem fine_fl {b : Box} (h : fineBox b) {m : Mail} (hm : m ∈ b.ml) : m.fl.length = 3 := mailOk_len ((box_iff.1 h.1).2.1 m hm).1
theorem fine_flagMail {b : Box} (h : fineBox b) (i : Nat) (hi : i < b.ml.length) (n : Int) (h0 : 0 ≤ n) (h7 : n ≤ 7) :
    flagMail b b.ml[i].g n 60 1 = ({ b with ml := b.ml.set i ⟨b.ml[i].g, b.ml[i].u, setFlags b.ml[i].fl n 60 1, b.ml[i].tx⟩ }, true) := by
  have hk := mailAt_nodup i hi (box_iff.1 h.1).2.2.2
  unfold flagMail
  rw [h.1, hk, decide_eq_true (show (0 : Int) ≤ (i : Int) by omega), isIn_yes h0 h7, show stampOk 60 1 = true from rfl]
  simp only [Bool.and_self, if_true, Int.toNat_natCast]
  congr 2
  apply List.ext_getElem?
  intro q
  rw [List.getElem?_modify, List.getElem?_set]
  by_cases e : i = q
  · subst e
    simp [hi]
  · simp [e]
theorem fine_takeOut {b : Box} (h : fineBox b) (i : Nat) (hi : i < b.ml.length) : takeOut b b.ml[i].g = ({ b with ml := b.ml.eraseIdx i, go := putIn b.ml[i].g b.go }, true) := by
  have hk := mailAt_nodup i hi (box_iff.1 h.1).2.2.2
  have hg := fine_gone h
  unfold takeOut
  rw [h.1, hk, decide_eq_true (show (0 : Int) ≤ (i : Int) by omega), decide_eq_true (show b.go.length < 40 by omega)]
  rfl
theorem fine_out {b : Box} (h : fineBox b) (i : Nat) (hi : i < b.ml.length) : mailAt (b.ml.eraseIdx i) b.ml[i].g = -1 := by
  apply mailAt_none
  have hn := erase_not (l := gids b.ml) (k := i) (by unfold gids; rw [List.length_map]; exact hi) (box_iff.1 h.1).2.2.2
  unfold gids at hn ⊢
  rw [map_erase]
  rw [List.getElem_map] at hn
  exact hn
theorem fine_left {b : Box} (h : fineBox b) (i k : Nat) (hk : k < b.ml.length) (hne : k ≠ i) (hi : i < b.ml.length) : ∃ j : Nat, mailAt (b.ml.eraseIdx i) b.ml[k].g = (j : Int) ∧ ∃ hj : j < (b.ml.eraseIdx i).length, (b.ml.eraseIdx i)[j] = b.ml[k] := by
  have hl : (b.ml.eraseIdx i).length = b.ml.length - 1 := List.length_eraseIdx_of_lt hi
  have hnd : (gids (b.ml.eraseIdx i)).Nodup := List.Pairwise.sublist ((List.eraseIdx_sublist _ _).map _) (box_iff.1 h.1).2.2.2
  obtain ⟨j, hj, he⟩ : ∃ j : Nat, ∃ hj : j < (b.ml.eraseIdx i).length, (b.ml.eraseIdx i)[j] = b.ml[k] := by
    by_cases hlt : k < i
    · exact ⟨k, by omega, by rw [List.getElem_eraseIdx, dif_pos hlt]⟩
    · refine ⟨k - 1, by omega, ?_⟩
      rw [List.getElem_eraseIdx, dif_neg (by omega)]
      congr 1
      omega
  refine ⟨j, ?_, hj, he⟩
  rw [← he]
  exact mailAt_nodup j hj hnd
/-! A text picked from a list, with what is known of each; a number looked for in a list: the walks. -/
set_option maxHeartbeats 2000000 in
set_option maxRecDepth 100000 in
theorem l01PickP_calls (P : ByteArray → Prop) (W w : World) (C g n cap : Nat) (hc : HasCur W w C) (hg : g ≠ C) (hn : 0 < n) (hm : n ≤ 1000) (h : ∀ k, k < n → ∃ s : ByteArray, w.cell? ⟨g, k, none⟩ = some (.string s) ∧ P s) :
    Calls Try.prog 168 #[.pointer (some ⟨C, 0, none⟩), .slice (some ⟨g, 0, none⟩) n cap] w fun e w' => ∃ s : ByteArray, e = .returned (.string s) ∧ P s ∧ Went W w w' C := by
  have HC := Aside.mk hc
  have HR := Aside.mk h
  clear hc h
  go_enter Try.func168, Try.ntmps168
  go_wp2_with (fail)
  refine (l01Below_calls W _ C _ HC.out).mono ?_
  rintro e w1 ⟨x, rfl, hx0, _, hx1, hw⟩
  obtain ⟨k, rfl⟩ := Int.eq_ofNat_of_zero_le hx0
  have hk : k < n := by have := hx1 (by omega); omega
  obtain ⟨s, x0, hs⟩ := HR.out k hk
  have x1 := cell_went x0 hw hg
  have HW := Aside.mk hw
  have HS := Aside.mk hs
  have p1 : (k : Int) < (n : Int) := by omega
  clear hw x0 hx1 hs
  go_wp2
  go_ret
  exact ⟨_, rfl, HS.out, HW.out⟩
theorem has_drop {x : Int} {l : List Int} {i : Nat} (h : i < l.length) : has x (l.drop i) = (decide (l[i] = x) || has x (l.drop (i + 1))) := by
  rw [List.drop_eq_getElem_cons h]; rfl
set_option maxHeartbeats 2000000 in
set_option maxRecDepth 100000 in
theorem in_calls (w : World) (v : Value) (l : List Int) (x : Int) (h : rdInts w v l) : Calls Try.prog 40 #[v, .int .i64 x] w (RetB (has x l) w) := by
  obtain ⟨A, c, rfl, _, hm⟩ := rd_len h
  have HR := Aside.mk h
  have HE : Aside (has x l = has x (l.drop 0)) := ⟨rfl⟩
  clear h
  go_enter Try.func40, Try.ntmps40
  go_wp2
  go_loopw [5] (fun v wr => ∃ i : Nat, i ≤ l.length ∧ v = .int .i64 i ∧ Aside (has x l = has x (l.drop i)) ∧ Aside (Below w.heap.size w wr)) (fun v _ => l.length - (intOf v).toNat)
  case atStart => exact ⟨0, Nat.zero_le _, rfl, HE, ⟨Below.refl _ _⟩⟩
  case round =>
    clear HE
    obtain ⟨i, hi, rfl, HE, HB⟩ := hrel
    by_cases hlt : i < l.length
    · obtain ⟨ad, hA, x0⟩ := rdInts_at (rdInts_mov HB.out HR.out) i hlt
      subst hA
      have hstep := has_drop (x := x) hlt
      have p0 : (0 : Int) ≤ (i : Int) := by omega
      have p1 : (i : Int) < (l.length : Int) := by omega
      generalize l[i] = y at x0 hstep
      by_cases hy : y = x
      · have HT : Aside (has x l = true) := ⟨by rw [HE.out, hstep, decide_eq_true hy]; rfl⟩
        clear hstep
        subst hy
        go_wp2
        go_ret
        exact ⟨by rw [HT.out]; rfl, HB.out⟩
      · have HT : Aside (has x l = has x (l.drop (i + 1))) := ⟨by rw [HE.out, hstep, decide_eq_false hy]; rfl⟩
        clear hstep
        go_wp2
        go_roundw
        case rel => exact ⟨i + 1, by omega, by go_num, HT, HB⟩
        case measure => simp [intOf]; omega
    · have hlt2 : ¬ ((i : Int) < (l.length : Int)) := by omega
      have HT : Aside (has x l = false) := ⟨by rw [HE.out, List.drop_eq_nil_iff.2 (by omega)]; rfl⟩
      go_wp2
      go_ret
      exact ⟨by rw [HT.out]; rfl, HB.out⟩
end Go.Proofs.Ytjfjpabfkembcaa.H
