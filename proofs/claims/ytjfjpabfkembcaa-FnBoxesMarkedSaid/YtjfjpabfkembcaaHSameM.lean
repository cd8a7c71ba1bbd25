/- Two mails the same; a text that begins another: the walks. Two mails the same, by the reference: the walk. -/
import Derived.Test.YtjfjpabfkembcaaHTurnPure
import Derived.Test.YtjfjpabfkembcaaHRegZ
import Derived.Test.YtjfjpabfkembcaaHFlagsOf
namespace Go.Proofs.Ytjfjpabfkembcaa.H
open Go.RowKit
set_option linter.unusedVariables false
set_option linter.unusedSimpArgs false
/-! Two mails the same; a text that begins another: the walks. -/
theorem toList_nums' {a b : ByteArray} (h : (a.toList == b.toList) = true) : nums a = nums b := by
  have h := eq_of_beq h
  rw [ByteArray.toList_eq, ByteArray.toList_eq] at h
  unfold nums
  rw [h]
def beginsT (a b : ByteArray) : Bool := decide (a.size ≤ b.size) && (b.extract 0 a.size).toList == a.toList
set_option maxHeartbeats 2000000 in
set_option maxRecDepth 100000 in
theorem begins_calls (w : World) (a b : ByteArray) (h : a.size ≤ b.size) (hb : ((b.extract 0 a.size).toList == a.toList) = true) : Calls Try.prog 65 #[.string a, .string b] w (RetT w) := by
  have h1 : (a.size : Int) ≤ (b.size : Int) := by omega
  go_enter Try.func65, Try.ntmps65
  go_wp2
  go_ret
  exact ⟨rfl, by (repeat (first | (with_reducible exact HB.out) | (with_reducible exact Below.refl _ _) | (with_reducible refine below_set ?_ (by first | omega | (dsimp only; omega) | (simp; done) | (simp; omega)) _) | (with_reducible refine below_alloc ?_ _) | (with_reducible refine below_drewN ?_ _) | (with_reducible refine below_drew ?_)))⟩
theorem get_ne {l k : List Reg} {i : Nat} {a b : Reg} (h1 : l[i]? = some a) (h2 : k[i]? = some b) (h : a ≠ b) : l ≠ k := fun e => h (by rw [e, h2] at h1; exact (Option.some.inj h1).symm)
theorem take_next {l k : List Reg} {i : Nat} {a : Reg} (h1 : l[i]? = some a) (h2 : k[i]? = some a) (h : l.take i = k.take i) : l.take (i + 1) = k.take (i + 1) := by
  rw [List.take_add_one, List.take_add_one, h, h1, h2]
theorem reg_ne {v t b v' t' b' : Int} (h : ¬ (v = v' ∧ t = t' ∧ b = b')) : (⟨v, t, b⟩ : Reg) ≠ ⟨v', t', b'⟩ := fun e => h (by injection e with h1 h2 h3; exact ⟨h1, h2, h3⟩)
def RetEq (P : Prop) (w : World) (e : Ending) (w' : World) : Prop := ∃ r : Bool, e = .returned (.bool r) ∧ (r = true ↔ P) ∧ Below w.heap.size w w'
set_option maxHeartbeats 2000000 in
set_option maxRecDepth 100000 in
theorem equalRegs_calls (w : World) (v1 v2 : Value) (l k : List Reg) (h1 : rdRegs w v1 l) (h2 : rdRegs w v2 k) : Calls Try.prog 147 #[v1, v2] w (RetEq (l = k) w) := by
  obtain ⟨A1, c1, rfl, _, hm⟩ := rd_len h1
  obtain ⟨A2, c2, rfl, _, _⟩ := rd_len h2
  have HR1 := Aside.mk h1
  have HR2 := Aside.mk h2
  clear h1 h2
  by_cases hlen : l.length = k.length
  rotate_left
  · have hlI : ¬ ((l.length : Int) = (k.length : Int)) := by omega
    have HNE : Aside (l ≠ k) := ⟨fun e => hlen (by rw [e])⟩
    clear hlen
    go_enter Try.func147, Try.ntmps147
    go_wp2
    go_ret
    exact ⟨false, rfl, ⟨fun h => Bool.noConfusion h, fun h => absurd h HNE.out⟩, by (repeat (first | (with_reducible exact HB.out) | (with_reducible exact Below.refl _ _) | (with_reducible refine below_set ?_ (by first | omega | (dsimp only; omega) | (simp; done) | (simp; omega)) _) | (with_reducible refine below_alloc ?_ _) | (with_reducible refine below_drewN ?_ _) | (with_reducible refine below_drew ?_)))⟩
  · obtain ⟨n, hn⟩ : ∃ n, n = l.length := ⟨_, rfl⟩
    have hk : k.length = n := by omega
    rw [← hn] at hm HR1
    rw [hk] at HR2
    have HL := Aside.mk hn
    have HK := Aside.mk hk
    try rw [← hn]
    try rw [hk]
    clear hn hk hlen
    go_enter Try.func147, Try.ntmps147
    go_wp2
    go_loopw [13] (fun v wr => ∃ i : Nat, i ≤ n ∧ v = .int .i64 i ∧ Aside (l.take i = k.take i) ∧ Aside (Below w.heap.size w wr)) (fun v _ => n - (intOf v).toNat)
    case atStart => exact ⟨0, Nat.zero_le _, rfl, ⟨rfl⟩, ⟨Below.refl _ _⟩⟩
    case round =>
      obtain ⟨i, hi, rfl, HT, HB⟩ := hrel
      by_cases hlt : i < n
      · have HL1 : Aside (i < l.length) := ⟨by have := HL.out; omega⟩
        have HL2 : Aside (i < k.length) := ⟨by have := HK.out; omega⟩
        obtain ⟨a1, e1, x0, x1, x2⟩ := rdRegs_at (rdRegs_mov HB.out HR1.out) i HL1.out
        obtain ⟨a2, e2, y0, y1, y2⟩ := rdRegs_at (rdRegs_mov HB.out HR2.out) i HL2.out
        subst e1 e2
        have G1 := Aside.mk (List.getElem?_eq_getElem HL1.out)
        have G2 := Aside.mk (List.getElem?_eq_getElem HL2.out)
        generalize l[i]'HL1.out = m at x0 x1 x2 G1
        generalize k[i]'HL2.out = m' at y0 y1 y2 G2
        clear HL1 HL2
        obtain ⟨v, t, b⟩ := m
        obtain ⟨v', t', b'⟩ := m'
        dsimp only at x0 x1 x2 y0 y1 y2
        have q0 : (0 : Int) ≤ (i : Int) := by omega
        have q1 : (i : Int) < (n : Int) := by omega
        by_cases hall : v = v' ∧ t = t' ∧ b = b'
        · obtain ⟨rfl, rfl, rfl⟩ := hall
          go_wp2
          refine zBegin (S := (fun w' => w'.cell? (a1.add (i * 3)) = some (.int .i64 v) ∧ w'.cell? ⟨(a1.add (i * 3)).block, (a1.add (i * 3)).off + 1, none⟩ = some (.int .i64 t) ∧ w'.cell? ⟨(a1.add (i * 3)).block, (a1.add (i * 3)).off + 2, none⟩ = some (.int .i64 b) ∧ w'.cell? (a2.add (i * 3)) = some (.int .i64 v) ∧ w'.cell? ⟨(a2.add (i * 3)).block, (a2.add (i * 3)).off + 1, none⟩ = some (.int .i64 t) ∧ w'.cell? ⟨(a2.add (i * 3)).block, (a2.add (i * 3)).off + 2, none⟩ = some (.int .i64 b))) (z := 9) (by kernel_rfl) (by exact ⟨x0, x1, x2, y0, y1, y2⟩) (fun hHeld => ?_)
          refine zT 0 16 hHeld ?_
          refine zT 1 17 hHeld ?_
          refine zT 2 18 hHeld ?_
          refine zT 3 19 hHeld ?_
          refine zT 4 20 hHeld ?_
          refine zT 5 21 hHeld ?_
          refine zT 6 22 hHeld ?_
          refine zT 7 23 hHeld ?_
          refine zT 8 24 hHeld ?_
          refine zDone (by kernel_rfl) ?_ _
          go_wp2
          go_roundw
          case rel => exact ⟨i + 1, by omega, by go_num, ⟨take_next G1.out G2.out HT.out⟩, ⟨below_drew HB.out⟩⟩
          case measure => simp [intOf]; omega
        · have HNE := Aside.mk (get_ne G1.out G2.out (reg_ne hall))
          go_wp2
          by_cases e1 : v = v'
          · subst e1
            by_cases e2 : t = t'
            · subst e2
              have e3 : b ≠ b' := fun e3 => hall ⟨rfl, rfl, e3⟩
              clear hall
              refine zBegin (S := (fun w' => w'.cell? (a1.add (i * 3)) = some (.int .i64 v) ∧ w'.cell? ⟨(a1.add (i * 3)).block, (a1.add (i * 3)).off + 1, none⟩ = some (.int .i64 t) ∧ w'.cell? ⟨(a1.add (i * 3)).block, (a1.add (i * 3)).off + 2, none⟩ = some (.int .i64 b) ∧ w'.cell? (a2.add (i * 3)) = some (.int .i64 v) ∧ w'.cell? ⟨(a2.add (i * 3)).block, (a2.add (i * 3)).off + 1, none⟩ = some (.int .i64 t) ∧ w'.cell? ⟨(a2.add (i * 3)).block, (a2.add (i * 3)).off + 2, none⟩ = some (.int .i64 b'))) (z := 9) (by kernel_rfl) (by exact ⟨x0, x1, x2, y0, y1, y2⟩) (fun hHeld => ?_)
              refine zT 0 16 hHeld ?_
              refine zT 1 17 hHeld ?_
              refine zT 2 18 hHeld ?_
              refine zT 3 19 hHeld ?_
              refine zT 4 20 hHeld ?_
              refine zT 5 21 hHeld ?_
              refine zT 6 22 hHeld ?_
              refine zT 7 23 hHeld ?_
              refine zT 8 24 hHeld ?_
              refine zDone (by kernel_rfl) ?_ _
              go_wp2
              go_ret
              exact ⟨false, rfl, ⟨fun h => Bool.noConfusion h, fun h => absurd h HNE.out⟩, below_drew HB.out⟩
            · clear hall
              refine zBegin (S := (fun w' => w'.cell? (a1.add (i * 3)) = some (.int .i64 v) ∧ w'.cell? ⟨(a1.add (i * 3)).block, (a1.add (i * 3)).off + 1, none⟩ = some (.int .i64 t) ∧ w'.cell? ⟨(a1.add (i * 3)).block, (a1.add (i * 3)).off + 2, none⟩ = some (.int .i64 b) ∧ w'.cell? (a2.add (i * 3)) = some (.int .i64 v) ∧ w'.cell? ⟨(a2.add (i * 3)).block, (a2.add (i * 3)).off + 1, none⟩ = some (.int .i64 t') ∧ w'.cell? ⟨(a2.add (i * 3)).block, (a2.add (i * 3)).off + 2, none⟩ = some (.int .i64 b'))) (z := 9) (by kernel_rfl) (by exact ⟨x0, x1, x2, y0, y1, y2⟩) (fun hHeld => ?_)
              refine zT 0 16 hHeld ?_
              refine zT 1 17 hHeld ?_
              refine zT 2 18 hHeld ?_
              refine zT 3 19 hHeld ?_
              refine zT 4 20 hHeld ?_
              refine zT 5 21 hHeld ?_
              refine zT 6 22 hHeld ?_
              refine zT 7 23 hHeld ?_
              refine zT 8 24 hHeld ?_
              refine zDone (by kernel_rfl) ?_ _
              go_wp2
              go_ret
              exact ⟨false, rfl, ⟨fun h => Bool.noConfusion h, fun h => absurd h HNE.out⟩, below_drew HB.out⟩
          · clear hall
            refine zBegin (S := (fun w' => w'.cell? (a1.add (i * 3)) = some (.int .i64 v) ∧ w'.cell? ⟨(a1.add (i * 3)).block, (a1.add (i * 3)).off + 1, none⟩ = some (.int .i64 t) ∧ w'.cell? ⟨(a1.add (i * 3)).block, (a1.add (i * 3)).off + 2, none⟩ = some (.int .i64 b) ∧ w'.cell? (a2.add (i * 3)) = some (.int .i64 v') ∧ w'.cell? ⟨(a2.add (i * 3)).block, (a2.add (i * 3)).off + 1, none⟩ = some (.int .i64 t') ∧ w'.cell? ⟨(a2.add (i * 3)).block, (a2.add (i * 3)).off + 2, none⟩ = some (.int .i64 b'))) (z := 9) (by kernel_rfl) (by exact ⟨x0, x1, x2, y0, y1, y2⟩) (fun hHeld => ?_)
            refine zT 0 16 hHeld ?_
            refine zT 1 17 hHeld ?_
            refine zT 2 18 hHeld ?_
            refine zT 3 19 hHeld ?_
            refine zT 4 20 hHeld ?_
            refine zT 5 21 hHeld ?_
            refine zT 6 22 hHeld ?_
            refine zT 7 23 hHeld ?_
            refine zT 8 24 hHeld ?_
            refine zDone (by kernel_rfl) ?_ _
            go_wp2
            go_ret
            exact ⟨false, rfl, ⟨fun h => Bool.noConfusion h, fun h => absurd h HNE.out⟩, below_drew HB.out⟩
      · obtain rfl : i = n := by omega
        clear hlt
        have HE : Aside (l = k) := ⟨by have h := HT.out; rwa [List.take_of_length_le (by have := HL.out; omega), List.take_of_length_le (by have := HK.out; omega)] at h⟩
        go_wp2
        go_ret
        exact ⟨true, rfl, ⟨fun _ => HE.out, fun _ => rfl⟩, HB.out⟩
theorem mail_ne {g u g' u' : Int} {fl fl' : List Reg} {tx tx' : ByteArray} (h : ¬ (g = g' ∧ u = u' ∧ fl = fl' ∧ tx = tx')) : (⟨g, u, fl, tx⟩ : Mail) ≠ ⟨g', u', fl', tx'⟩ := fun e => h (by injection e with h1 h2 h3 h4; exact ⟨h1, h2, h3, h4⟩)
theorem tx_eq {a b : ByteArray} : (a.toList == b.toList) = true ↔ a = b := ⟨fun h => nums_inj (toList_nums' h), fun h => by rw [h]; simp⟩
set_option maxHeartbeats 2000000 in
set_option maxRecDepth 100000 in
theorem sameMail_calls (w : World) (a b : Mail) (va vb : Value) (h1 : rdRegs w va a.fl) (h2 : rdRegs w vb b.fl) :
    Calls Try.prog 66 #[.agg #[.int .i64 a.g, .int .i64 a.u, va, .string a.tx], .agg #[.int .i64 b.g, .int .i64 b.u, vb, .string b.tx]] w (RetEq (a = b) w) := by
  obtain ⟨g, u, fl, tx⟩ := a
  obtain ⟨g', u', fl', tx'⟩ := b
  dsimp only at h1 h2 ⊢
  obtain ⟨A1, c1, rfl, _, hm⟩ := rd_len h1
  obtain ⟨A2, c2, rfl, _, _⟩ := rd_len h2
  obtain ⟨n1, hn1⟩ : ∃ n, fl.length = n := ⟨_, rfl⟩
  obtain ⟨n2, hn2⟩ : ∃ n, fl'.length = n := ⟨_, rfl⟩
  rw [hn1] at h1 ⊢
  rw [hn2] at h2 ⊢
  have HR1 := Aside.mk h1
  have HR2 := Aside.mk h2
  clear h1 h2 hn1 hn2
  by_cases e1 : g = g'
  rotate_left
  · have HNE : Aside ((⟨g, u, fl, tx⟩ : Mail) ≠ ⟨g', u', fl', tx'⟩) := ⟨mail_ne fun h => e1 h.1⟩
    go_enter Try.func66, Try.ntmps66
    go_wp2
    go_ret
    exact ⟨false, rfl, ⟨fun h => Bool.noConfusion h, fun h => absurd h HNE.out⟩, by (repeat (first | (with_reducible exact HB.out) | (with_reducible exact Below.refl _ _) | (with_reducible refine below_set ?_ (by first | omega | (dsimp only; omega) | (simp; done) | (simp; omega)) _) | (with_reducible refine below_alloc ?_ _) | (with_reducible refine below_drewN ?_ _) | (with_reducible refine below_drew ?_)))⟩
  subst e1
  by_cases e2 : u = u'
  rotate_left
  · have HNE : Aside ((⟨g, u, fl, tx⟩ : Mail) ≠ ⟨g, u', fl', tx'⟩) := ⟨mail_ne fun h => e2 h.2.1⟩
    go_enter Try.func66, Try.ntmps66
    go_wp2
    go_ret
    exact ⟨false, rfl, ⟨fun h => Bool.noConfusion h, fun h => absurd h HNE.out⟩, by (repeat (first | (with_reducible exact HB.out) | (with_reducible exact Below.refl _ _) | (with_reducible refine below_set ?_ (by first | omega | (dsimp only; omega) | (simp; done) | (simp; omega)) _) | (with_reducible refine below_alloc ?_ _) | (with_reducible refine below_drewN ?_ _) | (with_reducible refine below_drew ?_)))⟩
  subst e2
  go_enter Try.func66, Try.ntmps66
  go_wp2_with (fail)
  have L0 := Aside.mk ((Loc.new w #[.int .i64 g, .int .i64 u, .slice A1 n1 c1, .string tx] 58).alloc (.cells #[.int .i64 g, .int .i64 u, .slice A2 n2 c2, .string tx'] 58))
  have L1 := Aside.mk (Loc.new1 w (.cells #[.int .i64 g, .int .i64 u, .slice A1 n1 c1, .string tx] 58) #[.int .i64 g, .int .i64 u, .slice A2 n2 c2, .string tx'] 58)
  have HB := Aside.mk (below_alloc (below_alloc (Below.refl _ w) (.cells #[.int .i64 g, .int .i64 u, .slice A1 n1 c1, .string tx] 58)) (.cells #[.int .i64 g, .int .i64 u, .slice A2 n2 c2, .string tx'] 58))
  refine (equalRegs_calls _ _ _ fl fl' (rdRegs_mov HB.out HR1.out) (rdRegs_mov HB.out HR2.out)).mono ?_
  rintro e w1 ⟨r, rfl, hr, hb⟩
  replace L0 := Aside.mk (L0.out.below hb)
  replace L1 := Aside.mk (L1.out.below hb)
  replace HB := Aside.mk (below_step HB.out hb)
  have l0 := L0.out.cells
  have l1 := L1.out.cells
  have HRR := Aside.mk hr
  clear hr hb
  cases r with
  | false =>
    have HNE : Aside ((⟨g, u, fl, tx⟩ : Mail) ≠ ⟨g, u, fl', tx'⟩) := ⟨mail_ne fun h => Bool.noConfusion (HRR.out.2 h.2.2.1)⟩
    go_wp2
    go_ret
    exact ⟨false, rfl, ⟨fun h => Bool.noConfusion h, fun h => absurd h HNE.out⟩, HB.out⟩
  | true =>
    have HFL := Aside.mk (HRR.out.1 rfl)
    rcases hx : (tx.toList == tx'.toList) with _ | _
    · have HNE : Aside ((⟨g, u, fl, tx⟩ : Mail) ≠ ⟨g, u, fl', tx'⟩) := ⟨mail_ne fun h => by rw [tx_eq.2 h.2.2.2] at hx; cases hx⟩
      go_wp2
      go_ret
      exact ⟨false, rfl, ⟨fun h => Bool.noConfusion h, fun h => absurd h HNE.out⟩, HB.out⟩
    · have HEQ : Aside ((⟨g, u, fl, tx⟩ : Mail) = ⟨g, u, fl', tx'⟩) := ⟨by rw [HFL.out, tx_eq.1 hx]⟩
      go_wp2
      go_ret
      exact ⟨true, rfl, ⟨fun _ => HEQ.out, fun _ => rfl⟩, HB.out⟩
/-! Two mails the same, by the reference: the walk. -/
set_option maxHeartbeats 2000000 in
set_option maxRecDepth 100000 in
theorem specSameMail_calls (w : World) (a b : Mail) (va vb : Value) (h1 : rdRegs w va a.fl) (h2 : rdRegs w vb b.fl) :
    Calls Try.prog 37 #[.agg #[.int .i64 a.g, .int .i64 a.u, va, .string a.tx], .agg #[.int .i64 b.g, .int .i64 b.u, vb, .string b.tx]] w (RetEq (a = b) w) := by
  obtain ⟨g, u, l, tx⟩ := a
  obtain ⟨g', u', k, tx'⟩ := b
  dsimp only at h1 h2 ⊢
  obtain ⟨A1, c1, rfl, _, hm⟩ := rd_len h1
  obtain ⟨A2, c2, rfl, _, _⟩ := rd_len h2
  obtain ⟨n, hn1⟩ : ∃ n, l.length = n := ⟨_, rfl⟩
  obtain ⟨n2, hn2⟩ : ∃ n, k.length = n := ⟨_, rfl⟩
  rw [hn1] at h1 hm ⊢
  rw [hn2] at h2 ⊢
  have HR1 := Aside.mk h1
  have HR2 := Aside.mk h2
  have HL := Aside.mk hn1
  have HK := Aside.mk hn2
  clear h1 h2 hn1 hn2
  by_cases e1 : g = g'
  rotate_left
  · have HNE : Aside ((⟨g, u, l, tx⟩ : Mail) ≠ ⟨g', u', k, tx'⟩) := ⟨mail_ne fun h => e1 h.1⟩
    go_enter Try.func37, Try.ntmps37
    go_wp2
    go_ret
    exact ⟨false, rfl, ⟨fun h => Bool.noConfusion h, fun h => absurd h HNE.out⟩, by (repeat (first | (with_reducible exact HB.out) | (with_reducible exact Below.refl _ _) | (with_reducible refine below_set ?_ (by first | omega | (dsimp only; omega) | (simp; done) | (simp; omega)) _) | (with_reducible refine below_alloc ?_ _) | (with_reducible refine below_drewN ?_ _) | (with_reducible refine below_drew ?_)))⟩
  subst e1
  by_cases e2 : u = u'
  rotate_left
  · have HNE : Aside ((⟨g, u, l, tx⟩ : Mail) ≠ ⟨g, u', k, tx'⟩) := ⟨mail_ne fun h => e2 h.2.1⟩
    go_enter Try.func37, Try.ntmps37
    go_wp2
    go_ret
    exact ⟨false, rfl, ⟨fun h => Bool.noConfusion h, fun h => absurd h HNE.out⟩, by (repeat (first | (with_reducible exact HB.out) | (with_reducible exact Below.refl _ _) | (with_reducible refine below_set ?_ (by first | omega | (dsimp only; omega) | (simp; done) | (simp; omega)) _) | (with_reducible refine below_alloc ?_ _) | (with_reducible refine below_drewN ?_ _) | (with_reducible refine below_drew ?_)))⟩
  subst e2
  rcases hx : (tx.toList == tx'.toList) with _ | _
  · have HNE : Aside ((⟨g, u, l, tx⟩ : Mail) ≠ ⟨g, u, k, tx'⟩) := ⟨mail_ne fun h => by rw [tx_eq.2 h.2.2.2] at hx; cases hx⟩
    go_enter Try.func37, Try.ntmps37
    go_wp2
    go_ret
    exact ⟨false, rfl, ⟨fun h => Bool.noConfusion h, fun h => absurd h HNE.out⟩, by (repeat (first | (with_reducible exact HB.out) | (with_reducible exact Below.refl _ _) | (with_reducible refine below_set ?_ (by first | omega | (dsimp only; omega) | (simp; done) | (simp; omega)) _) | (with_reducible refine below_alloc ?_ _) | (with_reducible refine below_drewN ?_ _) | (with_reducible refine below_drew ?_)))⟩
  have HX : Aside (tx = tx') := ⟨tx_eq.1 hx⟩
  by_cases hlen : n = n2
  rotate_left
  · have HNE : Aside ((⟨g, u, l, tx⟩ : Mail) ≠ ⟨g, u, k, tx'⟩) := ⟨mail_ne fun h => hlen (by rw [← HL.out, ← HK.out, h.2.2.1])⟩
    have hlI : ¬ ((n : Int) = (n2 : Int)) := by omega
    go_enter Try.func37, Try.ntmps37
    go_wp2
    go_ret
    exact ⟨false, rfl, ⟨fun h => Bool.noConfusion h, fun h => absurd h HNE.out⟩, by (repeat (first | (with_reducible exact HB.out) | (with_reducible exact Below.refl _ _) | (with_reducible refine below_set ?_ (by first | omega | (dsimp only; omega) | (simp; done) | (simp; omega)) _) | (with_reducible refine below_alloc ?_ _) | (with_reducible refine below_drewN ?_ _) | (with_reducible refine below_drew ?_)))⟩
  subst hlen
  go_enter Try.func37, Try.ntmps37
  have L0 := Aside.mk ((Loc.new w #[.int .i64 g, .int .i64 u, .slice A1 n c1, .string tx] 58).alloc (.cells #[.int .i64 g, .int .i64 u, .slice A2 n c2, .string tx'] 58))
  have L1 := Aside.mk (Loc.new1 w (.cells #[.int .i64 g, .int .i64 u, .slice A1 n c1, .string tx] 58) #[.int .i64 g, .int .i64 u, .slice A2 n c2, .string tx'] 58)
  have HB := Aside.mk (below_alloc (below_alloc (Below.refl _ w) (.cells #[.int .i64 g, .int .i64 u, .slice A1 n c1, .string tx] 58)) (.cells #[.int .i64 g, .int .i64 u, .slice A2 n c2, .string tx'] 58))
  go_wp2
  go_loopw [5] (fun v wr => ∃ i : Nat, i ≤ n ∧ v = .int .i64 i ∧ Aside (l.take i = k.take i) ∧ Aside (Loc wr w.heap.size #[.int .i64 g, .int .i64 u, .slice A1 n c1, .string tx] 58) ∧ Aside (Loc wr (w.heap.size + 1) #[.int .i64 g, .int .i64 u, .slice A2 n c2, .string tx'] 58) ∧ Aside (Below w.heap.size w wr)) (fun v _ => n - (intOf v).toNat)
  case atStart => exact ⟨0, Nat.zero_le _, rfl, ⟨rfl⟩, L0, L1, HB⟩
  case round =>
    clear L0 L1 HB
    obtain ⟨i, hi, rfl, HT, L0, L1, HB⟩ := hrel
    have l0 := L0.out.cells
    have l1 := L1.out.cells
    by_cases hlt : i < n
    · have HL1 : Aside (i < l.length) := ⟨by have := HL.out; omega⟩
      have HL2 : Aside (i < k.length) := ⟨by have := HK.out; omega⟩
      obtain ⟨a1, e1, x0, x1, x2⟩ := rdRegs_at (rdRegs_mov HB.out HR1.out) i HL1.out
      obtain ⟨a2, e2, y0, y1, y2⟩ := rdRegs_at (rdRegs_mov HB.out HR2.out) i HL2.out
      subst e1 e2
      have G1 := Aside.mk (List.getElem?_eq_getElem HL1.out)
      have G2 := Aside.mk (List.getElem?_eq_getElem HL2.out)
      generalize l[i]'HL1.out = m at x0 x1 x2 G1
      generalize k[i]'HL2.out = m' at y0 y1 y2 G2
      clear HL1 HL2
      obtain ⟨v, t, b⟩ := m
      obtain ⟨v', t', b'⟩ := m'
      dsimp only at x0 x1 x2 y0 y1 y2
      have q0 : (0 : Int) ≤ (i : Int) := by omega
      have q1 : (i : Int) < (n : Int) := by omega
      by_cases hall : v = v' ∧ t = t' ∧ b = b'
      · obtain ⟨rfl, rfl, rfl⟩ := hall
        go_wp2
        refine zBegin (S := (fun w' => Loc w' w.heap.size #[.int .i64 g, .int .i64 u, .slice (some a1) n c1, .string tx] 58 ∧ Loc w' (w.heap.size + 1) #[.int .i64 g, .int .i64 u, .slice (some a2) n c2, .string tx'] 58 ∧ w'.cell? (a1.add (i * 3)) = some (.int .i64 v) ∧ w'.cell? ⟨(a1.add (i * 3)).block, (a1.add (i * 3)).off + 1, none⟩ = some (.int .i64 t) ∧ w'.cell? ⟨(a1.add (i * 3)).block, (a1.add (i * 3)).off + 2, none⟩ = some (.int .i64 b) ∧ w'.cell? (a2.add (i * 3)) = some (.int .i64 v) ∧ w'.cell? ⟨(a2.add (i * 3)).block, (a2.add (i * 3)).off + 1, none⟩ = some (.int .i64 t) ∧ w'.cell? ⟨(a2.add (i * 3)).block, (a2.add (i * 3)).off + 2, none⟩ = some (.int .i64 b))) (z := 11) (by kernel_rfl) (by exact ⟨L0.out.drew', L1.out.drew', x0, x1, x2, y0, y1, y2⟩) (fun hHeld => ?_)
        refine zT 0 41 hHeld ?_
        refine zT 1 42 hHeld ?_
        refine zT 2 43 hHeld ?_
        refine zT 3 44 hHeld ?_
        refine zT 4 45 hHeld ?_
        refine zT 5 46 hHeld ?_
        refine zT 6 47 hHeld ?_
        refine zT 7 48 hHeld ?_
        refine zT 8 49 hHeld ?_
        refine zT 9 50 hHeld ?_
        refine zT 10 51 hHeld ?_
        refine zDone (by kernel_rfl) ?_ _
        go_wp2
        go_roundw
        case rel => exact ⟨i + 1, by omega, by go_num, ⟨take_next G1.out G2.out HT.out⟩, ⟨L0.out.drew'⟩, ⟨L1.out.drew'⟩, ⟨below_drew HB.out⟩⟩
        case measure => simp [intOf]; omega
      · have HNE : Aside ((⟨g, u, l, tx⟩ : Mail) ≠ ⟨g, u, k, tx'⟩) := ⟨mail_ne fun h => get_ne G1.out G2.out (reg_ne hall) h.2.2.1⟩
        go_wp2
        by_cases e1 : v = v'
        · subst e1
          by_cases e2 : t = t'
          · subst e2
            have e3 : b ≠ b' := fun e3 => hall ⟨rfl, rfl, e3⟩
            clear hall
            refine zBegin (S := (fun w' => Loc w' w.heap.size #[.int .i64 g, .int .i64 u, .slice (some a1) n c1, .string tx] 58 ∧ Loc w' (w.heap.size + 1) #[.int .i64 g, .int .i64 u, .slice (some a2) n c2, .string tx'] 58 ∧ w'.cell? (a1.add (i * 3)) = some (.int .i64 v) ∧ w'.cell? ⟨(a1.add (i * 3)).block, (a1.add (i * 3)).off + 1, none⟩ = some (.int .i64 t) ∧ w'.cell? ⟨(a1.add (i * 3)).block, (a1.add (i * 3)).off + 2, none⟩ = some (.int .i64 b) ∧ w'.cell? (a2.add (i * 3)) = some (.int .i64 v) ∧ w'.cell? ⟨(a2.add (i * 3)).block, (a2.add (i * 3)).off + 1, none⟩ = some (.int .i64 t) ∧ w'.cell? ⟨(a2.add (i * 3)).block, (a2.add (i * 3)).off + 2, none⟩ = some (.int .i64 b'))) (z := 11) (by kernel_rfl) (by exact ⟨L0.out.drew', L1.out.drew', x0, x1, x2, y0, y1, y2⟩) (fun hHeld => ?_)
            refine zT 0 41 hHeld ?_
            refine zT 1 42 hHeld ?_
            refine zT 2 43 hHeld ?_
            refine zT 3 44 hHeld ?_
            refine zT 4 45 hHeld ?_
            refine zT 5 46 hHeld ?_
            refine zT 6 47 hHeld ?_
            refine zT 7 48 hHeld ?_
            refine zT 8 49 hHeld ?_
            refine zT 9 50 hHeld ?_
            refine zT 10 51 hHeld ?_
            refine zDone (by kernel_rfl) ?_ _
            go_wp2
            go_ret
            exact ⟨false, rfl, ⟨fun h => Bool.noConfusion h, fun h => absurd h HNE.out⟩, below_drew HB.out⟩
          · clear hall
            refine zBegin (S := (fun w' => Loc w' w.heap.size #[.int .i64 g, .int .i64 u, .slice (some a1) n c1, .string tx] 58 ∧ Loc w' (w.heap.size + 1) #[.int .i64 g, .int .i64 u, .slice (some a2) n c2, .string tx'] 58 ∧ w'.cell? (a1.add (i * 3)) = some (.int .i64 v) ∧ w'.cell? ⟨(a1.add (i * 3)).block, (a1.add (i * 3)).off + 1, none⟩ = some (.int .i64 t) ∧ w'.cell? ⟨(a1.add (i * 3)).block, (a1.add (i * 3)).off + 2, none⟩ = some (.int .i64 b) ∧ w'.cell? (a2.add (i * 3)) = some (.int .i64 v) ∧ w'.cell? ⟨(a2.add (i * 3)).block, (a2.add (i * 3)).off + 1, none⟩ = some (.int .i64 t') ∧ w'.cell? ⟨(a2.add (i * 3)).block, (a2.add (i * 3)).off + 2, none⟩ = some (.int .i64 b'))) (z := 11) (by kernel_rfl) (by exact ⟨L0.out.drew', L1.out.drew', x0, x1, x2, y0, y1, y2⟩) (fun hHeld => ?_)
            refine zT 0 41 hHeld ?_
            refine zT 1 42 hHeld ?_
            refine zT 2 43 hHeld ?_
            refine zT 3 44 hHeld ?_
            refine zT 4 45 hHeld ?_
            refine zT 5 46 hHeld ?_
            refine zT 6 47 hHeld ?_
            refine zT 7 48 hHeld ?_
            refine zT 8 49 hHeld ?_
            refine zT 9 50 hHeld ?_
            refine zT 10 51 hHeld ?_
            refine zDone (by kernel_rfl) ?_ _
            go_wp2
            go_ret
            exact ⟨false, rfl, ⟨fun h => Bool.noConfusion h, fun h => absurd h HNE.out⟩, below_drew HB.out⟩
        · clear hall
          refine zBegin (S := (fun w' => Loc w' w.heap.size #[.int .i64 g, .int .i64 u, .slice (some a1) n c1, .string tx] 58 ∧ Loc w' (w.heap.size + 1) #[.int .i64 g, .int .i64 u, .slice (some a2) n c2, .string tx'] 58 ∧ w'.cell? (a1.add (i * 3)) = some (.int .i64 v) ∧ w'.cell? ⟨(a1.add (i * 3)).block, (a1.add (i * 3)).off + 1, none⟩ = some (.int .i64 t) ∧ w'.cell? ⟨(a1.add (i * 3)).block, (a1.add (i * 3)).off + 2, none⟩ = some (.int .i64 b) ∧ w'.cell? (a2.add (i * 3)) = some (.int .i64 v') ∧ w'.cell? ⟨(a2.add (i * 3)).block, (a2.add (i * 3)).off + 1, none⟩ = some (.int .i64 t') ∧ w'.cell? ⟨(a2.add (i * 3)).block, (a2.add (i * 3)).off + 2, none⟩ = some (.int .i64 b'))) (z := 11) (by kernel_rfl) (by exact ⟨L0.out.drew', L1.out.drew', x0, x1, x2, y0, y1, y2⟩) (fun hHeld => ?_)
          refine zT 0 41 hHeld ?_
          refine zT 1 42 hHeld ?_
          refine zT 2 43 hHeld ?_
          refine zT 3 44 hHeld ?_
          refine zT 4 45 hHeld ?_
          refine zT 5 46 hHeld ?_
          refine zT 6 47 hHeld ?_
          refine zT 7 48 hHeld ?_
          refine zT 8 49 hHeld ?_
          refine zT 9 50 hHeld ?_
          refine zT 10 51 hHeld ?_
          refine zDone (by kernel_rfl) ?_ _
          go_wp2
          go_ret
          exact ⟨false, rfl, ⟨fun h => Bool.noConfusion h, fun h => absurd h HNE.out⟩, below_drew HB.out⟩
    · obtain rfl : i = n := by omega
      clear hlt
      have HE : Aside ((⟨g, u, l, tx⟩ : Mail) = ⟨g, u, k, tx'⟩) := ⟨by have h := HT.out; rw [List.take_of_length_le (by have := HL.out; omega), List.take_of_length_le (by have := HK.out; omega)] at h; rw [h, HX.out]⟩
      go_wp2
      go_ret
      exact ⟨true, rfl, ⟨fun _ => HE.out, fun _ => rfl⟩, HB.out⟩
end Go.Proofs.Ytjfjpabfkembcaa.H
