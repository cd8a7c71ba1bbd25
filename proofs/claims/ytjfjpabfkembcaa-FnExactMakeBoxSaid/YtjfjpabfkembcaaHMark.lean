/- The marks: every number and text of what a call owns is written anew, one after the other; and held: it reads as it was marked. The walks. -/
import Derived.Test.YtjfjpabfkembcaaProg
import Derived.Test.YtjfjpabfkembcaaHTac
namespace Go.Proofs.Ytjfjpabfkembcaa.H
open Go.RowKit
set_option linter.unusedVariables false
set_option linter.unusedSimpArgs false

def RetMk {α : Type} (R : World → List Nat → Value → α → Prop) (D : List Nat) (v : Value) (x : α) (k : Int) (w : World) (e : Ending) (w' : World) : Prop :=
  e = .returned (.int .i64 k) ∧ (∃ D', R w' D' v x ∧ D'.Nodup ∧ ∀ b ∈ D', b ∈ D) ∧ Keep D w w'
theorem set_at {α : Type} {d l : List α} {i : Nat} (hd : d.length = i) (hi : i < l.length) (x : α) : (d ++ l.drop i).set i x = (d ++ [x]) ++ l.drop (i + 1) := by
  subst hd
  rw [List.set_append_right _ _ (Nat.le_refl _), Nat.sub_self, List.drop_eq_getElem_cons hi, List.set_cons_zero, List.append_assoc]
  rfl
theorem get_at {α : Type} {d l : List α} {i : Nat} (hd : d.length = i) (hi : i < l.length) (h : i < (d ++ l.drop i).length) : (d ++ l.drop i)[i] = l[i] := by
  subst hd
  rw [List.getElem_append_right (Nat.le_refl _)]
  simp
theorem len_at {α : Type} {d l : List α} {i : Nat} (hd : d.length = i) (hi : i ≤ l.length) : (d ++ l.drop i).length = l.length := by
  rw [List.length_append, hd, List.length_drop]; omega
theorem mkRegs_len : ∀ (l : List Reg) (k : Int), (mkRegs k l).length = l.length
  | [], _ => rfl
  | _ :: l, k => by simp [mkRegs, mkRegs_len l]
theorem mkInts_len : ∀ (l : List Int) (k : Int), (mkInts k l).length = l.length
  | [], _ => rfl
  | _ :: l, k => by simp [mkInts, mkInts_len l]
theorem mkMails_len : ∀ (l : List Mail) (k : Int), (mkMails k l).length = l.length
  | [], _ => rfl
  | _ :: l, k => by simp [mkMails, mkMails_len l]
theorem mkBoxes_len : ∀ (l : List Box) (k : Int), (mkBoxes k l).length = l.length
  | [], _ => rfl
  | _ :: l, k => by simp [mkBoxes, mkBoxes_len l]
theorem mkRegs_app : ∀ (l m : List Reg) (k : Int), mkRegs k (l ++ m) = mkRegs k l ++ mkRegs (k + 3 * l.length) m
  | [], m, k => by simp [mkRegs]
  | _ :: l, m, k => by
    simp only [List.cons_append, mkRegs, mkRegs_app l m (k + 3), List.length_cons]
    congr 3
    push_cast
    omega
theorem mkInts_app : ∀ (l m : List Int) (k : Int), mkInts k (l ++ m) = mkInts k l ++ mkInts (k + l.length) m
  | [], m, k => by simp [mkInts]
  | _ :: l, m, k => by
    simp only [List.cons_append, mkInts, mkInts_app l m (k + 1), List.length_cons]
    congr 3
    push_cast
    omega
theorem mkMails_app : ∀ (l m : List Mail) (k : Int), mkMails k (l ++ m) = mkMails k l ++ mkMails (k + cMails l) m
  | [], m, k => by simp [mkMails, cMails]
  | x :: l, m, k => by
    simp only [List.cons_append, mkMails, mkMails_app l m, cMails]
    congr 3
    omega
theorem mkBoxes_app : ∀ (l m : List Box) (k : Int), mkBoxes k (l ++ m) = mkBoxes k l ++ mkBoxes (k + cBoxes l) m
  | [], m, k => by simp [mkBoxes, cBoxes]
  | x :: l, m, k => by
    simp only [List.cons_append, mkBoxes, mkBoxes_app l m, cBoxes]
    congr 3
    omega
theorem cMails_app : ∀ (l m : List Mail), cMails (l ++ m) = cMails l + cMails m
  | [], m => by simp [cMails]
  | x :: l, m => by simp only [List.cons_append, cMails, cMails_app l m]; omega
theorem cBoxes_app : ∀ (l m : List Box), cBoxes (l ++ m) = cBoxes l + cBoxes m
  | [], m => by simp [cBoxes]
  | x :: l, m => by simp only [List.cons_append, cBoxes, cBoxes_app l m]; omega
theorem cMails_nn : ∀ (l : List Mail), 0 ≤ cMails l
  | [] => Int.le_refl _
  | x :: l => by have := cMails_nn l; simp only [cMails, cMail]; omega
theorem cBoxes_nn : ∀ (l : List Box), 0 ≤ cBoxes l
  | [] => Int.le_refl _
  | x :: l => by have := cBoxes_nn l; have := cMails_nn x.ml; simp only [cBoxes, cBox]; omega

theorem cell_own' {α : Type} {e sz : Nat} {R : World → List Nat → List Value → α → Prop} {K : World → List Value → α → Prop} (o : Ow sz R K) {w : World} {D : List Nat} {v : Value} {l : List α} (h : owRow e sz R w D v l) :
    ∃ A c, v = .slice A l.length c := by
  obtain ⟨A, c, h, _⟩ := rd_len (owRow_rd o h)
  exact ⟨A, c, h⟩
set_option maxHeartbeats 2000000 in
set_option maxRecDepth 100000 in
theorem markRegs_calls (w : World) (D : List Nat) (v : Value) (l : List Reg) (k : Int) (h : owRegs w D v l) (hN : D.Nodup) (h0 : 0 ≤ k) (h1 : k + 3 * l.length ≤ 1000000000000) :
    Calls Try.prog 109 #[v, .int .i64 k] w (RetMk owRegs D v (mkRegs k l) (k + 3 * l.length) w) := by
  obtain ⟨A, c, rfl, _, hm⟩ := rd_len (owRow_rd ow_reg h)
  have HO := Aside.mk h
  have HN := Aside.mk hN
  clear h hN
  go_enter Try.func109, Try.ntmps109
  go_wp2
  go_loopw [1, 5] (fun v1 v5 wr => ∃ (i : Nat) (a : Int) (D' : List Nat), i ≤ l.length ∧ v5 = .int .i64 i ∧ v1 = .int .i64 a ∧ 0 ≤ a ∧ a + 3 * ((l.length : Int) - i) ≤ 1000000000000 ∧ Aside (a = k + 3 * i) ∧ Aside (owRegs wr D' (.slice A l.length c) (mkRegs k (l.take i) ++ l.drop i)) ∧ Aside D'.Nodup ∧ Aside (∀ b ∈ D', b ∈ D) ∧ Aside (Keep D w wr)) (fun _ v5 _ => l.length - (intOf v5).toNat)
  case atStart => exact ⟨0, _, D, Nat.zero_le _, rfl, rfl, h0, by omega, ⟨by simp⟩, HO, HN, ⟨fun _ h => h⟩, ⟨Keep.refl _ _⟩⟩
  case round =>
    clear HO HN h0 h1
    obtain ⟨i, a, D', hi, rfl, rfl, ha0, ha1, HA, HO, HN, HD, HB⟩ := hrel
    have hd : (mkRegs k (l.take i)).length = i := by rw [mkRegs_len, List.length_take]; omega
    by_cases hlt : i < l.length
    · have hx : i < (mkRegs k (l.take i) ++ l.drop i).length := by rw [len_at hd hi]; exact hlt
      obtain ⟨g, c', Di, xi, hv, hgD, hgi, hDi, hnd, hRi, hcell, hfr, ⟨cur, hcur⟩, F⟩ := owRow_focus ow_reg HO.out HN.out i hx (by omega)
      obtain ⟨rfl, rfl⟩ := hRi
      have hA : A = some ⟨g, 0, none⟩ := by injection hv
      subst hA
      have y0 := hcell 0 _ rfl
      have y1 := hcell 1 _ rfl
      have y2 := hcell 2 _ rfl
      have HS := Aside.mk (set_at hd hlt (⟨a, a + 1, a + 1 + 1⟩ : Reg))
      have f0 := hfr (i * 3 + 0)
      have f1 := hfr (i * 3 + 1)
      have f2 := hfr (i * 3 + 2)
      have HF := Aside.mk F
      have HC := Aside.mk hcur
      have HG := Aside.mk (HD.out g hgD)
      rw [Nat.add_zero] at y0 f0
      generalize (mkRegs k (l.take i) ++ l.drop i)[i] = m at y0 y1 y2
      clear F hcell hfr hcur hgi hDi hnd hv hd hx
      go_wp2
      have hE : ∀ j u, ([.int .i64 a, .int .i64 (a + 1), .int .i64 (a + 1 + 1)] : List Value)[j]? = some u → (sets wr g (i * 3) [.int .i64 a, .int .i64 (a + 1), .int .i64 (a + 1 + 1)]).cell? ⟨g, i * 3 + j, none⟩ = some u :=
        sets_cell g _ _ wr (fun j hj => by
          match j, hj with
          | 0, _ => exact ⟨_, y0⟩
          | 1, _ => exact ⟨_, y1⟩
          | 2, _ => exact ⟨_, y2⟩)
      obtain ⟨D2, k1, k2, k3⟩ := HF.out (sets wr g (i * 3) [.int .i64 a, .int .i64 (a + 1), .int .i64 (a + 1 + 1)]) [] _ ⟨a, a + 1, a + 1 + 1⟩ (fun b _ hb _ => sets_far g _ _ wr b hb) (sets_seg g _ _ _ _ wr wr (Seg.refl HC.out) (Nat.le_refl _) (by simp)) hE ⟨rfl, rfl⟩ List.nodup_nil (by simp)
      rw [HS.out] at k1
      go_roundw
      case rel => exact ⟨i + 1, a + 1 + 1 + 1, D2, by omega, by go_num, rfl, by omega, by push_cast; omega, ⟨by have := HA.out; push_cast; omega⟩, ⟨by rw [List.take_succ_eq_append_getElem hlt, mkRegs_app, List.length_take, Nat.min_eq_left hi, ← HA.out]; simp only [mkRegs]; rw [show a + 2 = a + 1 + 1 by omega]; exact k1⟩, ⟨k2⟩, ⟨fun b hb => (k3 b hb).elim (HD.out b) (by simp)⟩, ⟨HB.out.trans ((sets_keep g [.int .i64 a, .int .i64 (a + 1), .int .i64 (a + 1 + 1)] (i * 3) wr).mono (by simpa using HG.out))⟩⟩
      case measure => simp [intOf]; omega
    · obtain rfl : i = l.length := by omega
      clear hlt
      go_wp2
      go_ret
      exact ⟨ret_i HA.out, ⟨D', by have := HO.out; rw [List.drop_length, List.append_nil, List.take_length] at this; exact this, HN.out, HD.out⟩, HB.out⟩
set_option maxHeartbeats 2000000 in
set_option maxRecDepth 100000 in
theorem markInts_calls (w : World) (D : List Nat) (v : Value) (l : List Int) (k : Int) (h : owInts w D v l) (hN : D.Nodup) (h0 : 0 ≤ k) (h1 : k + l.length ≤ 1000000000000) :
    Calls Try.prog 83 #[v, .int .i64 k] w (RetMk owInts D v (mkInts k l) (k + l.length) w) := by
  obtain ⟨A, c, rfl, _, hm⟩ := rd_len (owRow_rd ow_int h)
  have HO := Aside.mk h
  have HN := Aside.mk hN
  clear h hN
  go_enter Try.func83, Try.ntmps83
  go_wp2
  go_loopw [1, 5] (fun v1 v5 wr => ∃ (i : Nat) (a : Int) (D' : List Nat), i ≤ l.length ∧ v5 = .int .i64 i ∧ v1 = .int .i64 a ∧ 0 ≤ a ∧ a + ((l.length : Int) - i) ≤ 1000000000000 ∧ Aside (a = k + i) ∧ Aside (owInts wr D' (.slice A l.length c) (mkInts k (l.take i) ++ l.drop i)) ∧ Aside D'.Nodup ∧ Aside (∀ b ∈ D', b ∈ D) ∧ Aside (Keep D w wr)) (fun _ v5 _ => l.length - (intOf v5).toNat)
  case atStart => exact ⟨0, _, D, Nat.zero_le _, rfl, rfl, h0, by omega, ⟨by simp⟩, HO, HN, ⟨fun _ h => h⟩, ⟨Keep.refl _ _⟩⟩
  case round =>
    clear HO HN h0 h1
    obtain ⟨i, a, D', hi, rfl, rfl, ha0, ha1, HA, HO, HN, HD, HB⟩ := hrel
    have hd : (mkInts k (l.take i)).length = i := by rw [mkInts_len, List.length_take]; omega
    by_cases hlt : i < l.length
    · have hx : i < (mkInts k (l.take i) ++ l.drop i).length := by rw [len_at hd hi]; exact hlt
      obtain ⟨g, c', Di, xi, hv, hgD, hgi, hDi, hnd, hRi, hcell, hfr, ⟨cur, hcur⟩, F⟩ := owRow_focus ow_int HO.out HN.out i hx (by omega)
      obtain ⟨rfl, rfl⟩ := hRi
      have hA : A = some ⟨g, 0, none⟩ := by injection hv
      subst hA
      have y0 := hcell 0 _ rfl
      have HS := Aside.mk (set_at hd hlt a)
      have f0 := hfr i
      rw [Nat.mul_one] at F
      have HF := Aside.mk F
      have HC := Aside.mk hcur
      have HG := Aside.mk (HD.out g hgD)
      rw [Nat.add_zero, Nat.mul_one] at y0
      generalize (mkInts k (l.take i) ++ l.drop i)[i] = m at y0
      clear F hcell hfr hcur hgi hDi hnd hv hd hx
      go_wp2
      have hE : ∀ j u, ([.int .i64 a] : List Value)[j]? = some u → (sets wr g i [.int .i64 a]).cell? ⟨g, i + j, none⟩ = some u :=
        sets_cell g _ _ wr (fun j hj => by
          match j, hj with
          | 0, _ => exact ⟨_, y0⟩)
      obtain ⟨D2, k1, k2, k3⟩ := HF.out (sets wr g i [.int .i64 a]) [] _ a (fun b _ hb _ => sets_far g _ _ wr b hb) (sets_seg g _ _ _ _ wr wr (Seg.refl HC.out) (Nat.le_refl _) (by simp)) hE ⟨rfl, rfl⟩ List.nodup_nil (by simp)
      rw [HS.out] at k1
      go_roundw
      case rel => exact ⟨i + 1, a + 1, D2, by omega, by go_num, rfl, by omega, by push_cast; omega, ⟨by have := HA.out; push_cast; omega⟩, ⟨by rw [List.take_succ_eq_append_getElem hlt, mkInts_app, List.length_take, Nat.min_eq_left hi, ← HA.out]; exact k1⟩, ⟨k2⟩, ⟨fun b hb => (k3 b hb).elim (HD.out b) (by simp)⟩, ⟨HB.out.trans ((sets_keep g [.int .i64 a] i wr).mono (by simpa using HG.out))⟩⟩
      case measure => simp [intOf]; omega
    · obtain rfl : i = l.length := by omega
      clear hlt
      go_wp2
      go_ret
      exact ⟨ret_i HA.out, ⟨D', by have := HO.out; rw [List.drop_length, List.append_nil, List.take_length] at this; exact this, HN.out, HD.out⟩, HB.out⟩
set_option maxHeartbeats 2000000 in
set_option maxRecDepth 100000 in
theorem markText_calls (w : World) (n : Nat) (h1 : n ≤ 1000000000001) :
    Calls Try.prog 155 #[.int .i64 n] w fun e w' => e = .returned (.string (mtext n)) ∧ Below w.heap.size w w' := by
  by_cases h0 : n = 0
  · subst h0
    go_enter Try.func155, Try.ntmps155
    go_wp2
    go_ret
    exact ⟨rfl, Below.refl _ _⟩
  · have hp : (0 : Int) < n := by omega
    have HM : Aside (mtext n = ⟨(109 :: digs 30 n).toArray⟩) := ⟨by unfold mtext; rw [if_neg (by omega)]; rfl⟩
    clear h0
    go_enter Try.func155, Try.ntmps155
    go_wp2
    go_loopw [0, 3] (fun v0 v3 wr => ∃ (f q : Nat) (s : ByteArray), v0 = .int .i64 q ∧ v3 = .string s ∧ q ≤ 1000000000001 ∧ s.size + f ≤ 30 ∧ Aside (q < 10 ^ f) ∧ Aside (digs 30 n = digs f q ++ s.data.toList) ∧ Aside (Below w.heap.size w wr)) (fun v0 _ _ => (intOf v0).toNat)
    case atStart => exact ⟨30, n, _, rfl, rfl, h1, Nat.le_refl 30, ⟨by omega⟩, ⟨by show _ = _ ++ ([] : List UInt8); rw [List.append_nil]⟩, ⟨Below.refl _ _⟩⟩
    case round =>
      obtain ⟨f, q, s, rfl, rfl, hq, hs, HQ, HS, HB⟩ := hrel
      by_cases hz : q = 0
      · subst hz
        go_wp2
        go_ret
        refine ⟨?_, HB.out⟩
        have hd : digs f 0 = [] := by cases f <;> simp [digs]
        rw [HM.out, HS.out, hd, List.nil_append]
        congr 2
      · have hp2 : (0 : Int) < q := by omega
        have hr : 0 ≤ (q : Int) % 10 ∧ (q : Int) % 10 ≤ 9 := by omega
        have hcv := run_convert_bytes_arg (P := Try.prog) (wr.alloc (.cells #[.int .u8 (48 + (q : Int) % 10)] 5)) 64 5 Try.underlying64 Try.underlying5 wr.heap.size 0 1 1 [48 + (q : Int) % 10] rfl (fun i hi => by
          obtain rfl : i = 0 := by omega
          simp) 9 Try.underlying9
        have hb1 : (strOfNums [48 + (q : Int) % 10]).size = 1 := by simp [strOfNums_size]
        have hf : ∃ f', f = f' + 1 := by
          cases f with
          | zero => have := HQ.out; simp at this; omega
          | succ f' => exact ⟨f', rfl⟩
        obtain ⟨f', rfl⟩ := hf
        have HB2 := Aside.mk (below_alloc HB.out (.cells #[.int .u8 (48 + (q : Int) % 10)] 5))
        have HS2 : Aside (digs 30 n = digs f' (q / 10) ++ (strOfNums [48 + (q : Int) % 10] ++ s).data.toList) := ⟨by
          rw [HS.out, digs, if_neg hz, ByteArray.data_append, Array.toList_append, strOfNums_data, List.append_assoc]
          congr 1⟩
        have HQ2 : Aside (q / 10 < 10 ^ f') := ⟨by have := HQ.out; rw [Nat.pow_succ] at this; omega⟩
        have hs2 : (strOfNums [48 + (q : Int) % 10] ++ s).size + f' ≤ 30 := by rw [ByteArray.size_append]; omega
        go_wp2
        go_roundw
        case rel => exact ⟨f', q / 10, _, by simp, rfl, by omega, hs2, HQ2, HS2, HB2⟩
        case measure => simp [intOf]; omega
theorem markTextI_calls (w : World) (k : Int) (h0 : 0 ≤ k) (h1 : k ≤ 1000000000001) :
    Calls Try.prog 155 #[.int .i64 k] w fun e w' => e = .returned (.string (mtext k)) ∧ Below w.heap.size w w' := by
  obtain ⟨n, rfl⟩ := Int.eq_ofNat_of_zero_le h0
  exact markText_calls w n (by omega)
theorem keep_cell {D : List Nat} {w w' : World} (h : Keep D w w') {p : Addr} {u : Value} (hc : w.cell? p = some u) (hn : p.block ∉ D) : w'.cell? p = some u :=
  (World.cell?_of_block (w := w) (h.block p.block (World.block_lt_of_cell? w p hc) hn)).trans hc
theorem keep_frozen {D : List Nat} {w w' : World} (h : Keep D w w') {p : Addr} (hl : p.block < w.heap.size) (hn : p.block ∉ D) : w'.frozen? p = w.frozen? p := World.frozen?_of_block (w := w) (h.block p.block hl hn)
set_option maxHeartbeats 2000000 in
set_option maxRecDepth 100000 in
theorem markMails_calls (w : World) (D : List Nat) (v : Value) (l : List Mail) (k : Int) (h : owMails w D v l) (hN : D.Nodup) (h0 : 0 ≤ k) (h1 : k + cMails l ≤ 1000000000000) :
    Calls Try.prog 82 #[v, .int .i64 k] w (RetMk owMails D v (mkMails k l) (k + cMails l) w) := by
  obtain ⟨A, c, rfl, _, hm⟩ := rd_len (owRow_rd ow_mail h)
  have HO := Aside.mk h
  have HN := Aside.mk hN
  have HK := Aside.mk h1
  clear h hN h1
  go_enter Try.func82, Try.ntmps82
  go_wp2
  go_loopw [1, 5] (fun v1 v5 wr => ∃ (i : Nat) (a : Int) (D' : List Nat), i ≤ l.length ∧ v5 = .int .i64 i ∧ v1 = .int .i64 a ∧ 0 ≤ a ∧ Aside (a = k + cMails (l.take i)) ∧ Aside (owMails wr D' (.slice A l.length c) (mkMails k (l.take i) ++ l.drop i)) ∧ Aside D'.Nodup ∧ Aside (∀ b ∈ D', b ∈ D) ∧ Aside (Keep D w wr)) (fun _ v5 _ => l.length - (intOf v5).toNat)
  case atStart => exact ⟨0, _, D, Nat.zero_le _, rfl, rfl, h0, ⟨by simp [cMails]⟩, HO, HN, ⟨fun _ h => h⟩, ⟨Keep.refl _ _⟩⟩
  case round =>
    clear HO HN h0
    obtain ⟨i, a, D', hi, rfl, rfl, ha0, HA, HO, HN, HD, HB⟩ := hrel
    have hd : (mkMails k (l.take i)).length = i := by rw [mkMails_len, List.length_take]; omega
    by_cases hlt : i < l.length
    · have hx : i < (mkMails k (l.take i) ++ l.drop i).length := by rw [len_at hd hi]; exact hlt
      obtain ⟨g, c', Di, xi, hv, hgD, hgi, hDi, hnd, hRi, hcell, hfr, ⟨cur, hcur⟩, F⟩ := owRow_focus ow_mail HO.out HN.out i hx (by omega)
      have hgx := get_at hd hlt hx
      rw [hgx] at hRi
      have hA : A = some ⟨g, 0, none⟩ := by injection hv
      subst hA
      have HT : Aside (l.take (i + 1) = l.take i ++ [l[i]]) := ⟨List.take_succ_eq_append_getElem hlt⟩
      have hcl : cMails l = cMails (l.take i) + cMail l[i] + cMails (l.drop (i + 1)) := by
        conv => lhs; rw [← List.take_append_drop i l, cMails_app, List.drop_eq_getElem_cons hlt, cMails]
        omega
      have hcn := cMails_nn (l.drop (i + 1))
      generalize l[i] = m at hRi HT hcl
      obtain ⟨fv, rfl, hof⟩ := hRi
      obtain ⟨A2, c2, rfl⟩ := cell_own' ow_reg hof
      have hk1 : a + cMail m ≤ 1000000000000 := by have := HA.out; have := HK.out; omega
      have hk2 : a + 3 + 3 * (m.fl.length : Int) ≤ 1000000000000 := by unfold cMail at hk1; omega
      have y0 := hcell 0 _ rfl
      have y1 := hcell 1 _ rfl
      have y2 := hcell 2 _ rfl
      have y3 := hcell 3 _ rfl
      have f0 := hfr (i * 4 + 0)
      have f1 := hfr (i * 4 + 1)
      have f2 := hfr (i * 4 + 2)
      have f3 := hfr (i * 4 + 3)
      have HF := Aside.mk F
      have HC := Aside.mk hcur
      have HG := Aside.mk (HD.out g hgD)
      have HL := Aside.mk (owRow_lt ow_mail HO.out g hgD)
      have HI := Aside.mk hgi
      have HDi := Aside.mk hDi
      have HND := Aside.mk hnd
      have HOF := Aside.mk hof
      have HS := Aside.mk (set_at hd hlt (⟨a, a + 1, mkRegs (a + 1 + 1) m.fl, mtext (a + 1 + 1 + 3 * m.fl.length)⟩ : Mail))
      rw [Nat.add_zero] at y0 f0
      clear F hcell hfr hcur hgi hDi hnd hv hd hx hgx hk1 hcl hcn hof
      go_wp2_with (first
        | (go_at_call 109; go_loud (refine (markRegs_calls _ Di _ m.fl _ (owRow_set ow_reg (owRow_set ow_reg HOF.out HI.out _) HI.out _) HND.out (by omega) (by omega)).mono ?_; rintro e w1 ⟨rfl, ⟨D2, ho, hnd2, hsub⟩, hk⟩; have z0 := keep_cell (p := ⟨g, i * 4, none⟩) hk (u := .int .i64 a) (by go_simp) HI.out; have z1 := keep_cell (p := ⟨g, i * 4 + 1, none⟩) hk (u := .int .i64 (a + 1)) (by go_simp) HI.out; have z2 := keep_cell (p := ⟨g, i * 4 + 2, none⟩) hk (u := .slice A2 m.fl.length c2) (by go_simp) HI.out; have z3 := keep_cell (p := ⟨g, i * 4 + 3, none⟩) hk (u := .string m.tx) (by go_simp) HI.out; have e3 : w1.frozen? ⟨g, i * 4 + 3, none⟩ = false := ((keep_frozen hk (by simp [World.setCell]; exact HL.out) HI.out).trans (by go_simp)); have HM := Aside.mk ho; have HND2 := Aside.mk hnd2; have HSB := Aside.mk hsub; have HKP := Aside.mk hk; clear ho hnd2 hsub hk))
        | (go_at_call 155; refine (markTextI_calls _ _ (by omega) (by omega)).mono ?_; rintro e w2 ⟨rfl, hb⟩; have e4 : w2.frozen? ⟨g, i * 4 + 3, none⟩ = false := ((hb.frozen (p := ⟨g, i * 4 + 3, none⟩) (World.block_lt_of_cell? _ _ z3)).trans e3); replace z0 := cell_b hb z0; replace z1 := cell_b hb z1; replace z2 := cell_b hb z2; replace z3 := cell_b hb z3; have HB2 := Aside.mk hb; clear hb))
      have e0 : Seg g (i * 4) (i * 4 + 4) wr w1 := (((Seg.refl HC.out).set (i * 4) (Nat.le_refl _) (by omega) (.int .i64 a)).set (i * 4 + 1) (by omega) (by omega) (.int .i64 (a + 1))).keep (HKP.out.block g (by simp [World.setCell]; exact HL.out) HI.out)
      have hlw : g < w1.heap.size := Nat.lt_of_lt_of_le HL.out (by have := HKP.out.size; simpa [World.setCell] using this)
      have hg2 : g ∉ D2 := fun h => HI.out (HSB.out g h)
      have e5 := (e0.keep (HB2.out.block g hlw)).set (i * 4 + 3) (by omega) (by omega) (.string (mtext (a + 1 + 1 + 3 * m.fl.length)))
      have hE : ∀ j u, ([.int .i64 a, .int .i64 (a + 1), .slice A2 m.fl.length c2, .string (mtext (a + 1 + 1 + 3 * m.fl.length))] : List Value)[j]? = some u → (w2.setCell ⟨g, i * 4 + 3, none⟩ (.string (mtext (a + 1 + 1 + 3 * m.fl.length)))).cell? ⟨g, i * 4 + j, none⟩ = some u := fun j u hu => by
        match j, hu with
        | 0, hu => cases hu; exact (World.cell?_setCell_other w2 _ _ _ (by intro e; injection e with _ e; omega)).trans z0
        | 1, hu => cases hu; exact (World.cell?_setCell_other w2 _ _ _ (by intro e; injection e with _ e; omega)).trans z1
        | 2, hu => cases hu; exact (World.cell?_setCell_other w2 _ _ _ (by intro e; injection e with _ e; omega)).trans z2
        | 3, hu => cases hu; exact World.cell?_setCell_same w2 _ _ z3
      obtain ⟨D3, k1, k2, k3⟩ := HF.out _ D2 _ ⟨a, a + 1, mkRegs (a + 1 + 1) m.fl, mtext (a + 1 + 1 + 3 * m.fl.length)⟩
        (fun b hb1 hb2 hb3 => by
          have hlb := owRow_lt ow_mail HO.out b hb1
          have s1 : ((wr.setCell ⟨g, i * 4, none⟩ (.int .i64 a)).setCell ⟨g, i * 4 + 1, none⟩ (.int .i64 (a + 1))).heap.size = wr.heap.size := by simp [World.setCell]
          rw [Below.heap_setCell w2 _ _ b hb2, HB2.out.block b (by have := HKP.out.size; omega), HKP.out.block b (by omega) hb3, Below.heap_setCell _ _ _ b hb2, Below.heap_setCell _ _ _ b hb2]) e5 hE
        ⟨_, rfl, owRow_set ow_reg (owRow_below ow_reg HM.out HB2.out) hg2 _⟩ HND2.out (fun b hb => .inl (HSB.out b hb))
      rw [HS.out] at k1
      have HB5 : Aside (Keep D w (w2.setCell ⟨g, i * 4 + 3, none⟩ (.string (mtext (a + 1 + 1 + 3 * m.fl.length))))) := ⟨((((HB.out.set (p := ⟨g, i * 4, none⟩) HG.out _).set (p := ⟨g, i * 4 + 1, none⟩) HG.out _).trans (HKP.out.mono fun b hb => HD.out b (HDi.out b hb))).trans (Keep.of_below HB2.out)).set HG.out _⟩
      go_roundw
      case rel => exact ⟨i + 1, _, D3, by omega, by go_num, rfl, by omega, ⟨by have := HA.out; rw [HT.out, cMails_app]; simp only [cMails, cMail]; omega⟩, ⟨by rw [HT.out, mkMails_app, ← HA.out]; simp only [mkMails]; rw [show a + 2 = a + 1 + 1 by omega]; exact k1⟩, ⟨k2⟩, ⟨fun b hb => (k3 b hb).elim (HD.out b) (fun h => HD.out b (HDi.out b (HSB.out b h)))⟩, HB5⟩
      case measure => simp [intOf]; omega
    · obtain rfl : i = l.length := by omega
      clear hlt
      go_wp2
      go_ret
      exact ⟨ret_i (by have := HA.out; rw [List.take_length] at this; exact this), ⟨D', by have := HO.out; rw [List.drop_length, List.append_nil, List.take_length] at this; exact this, HN.out, HD.out⟩, HB.out⟩
theorem nodup_parts {D1 D2 : List Nat} (h : (D1 ++ D2).Nodup) : D1.Nodup ∧ D2.Nodup ∧ ∀ b ∈ D1, b ∉ D2 := by
  obtain ⟨h1, h2, h3⟩ := List.nodup_append.1 h
  exact ⟨h1, h2, fun b hb hb' => h3 b hb b hb' rfl⟩
theorem nodup_mk {D1 D2 E1 E2 : List Nat} (h : (D1 ++ D2).Nodup) (n1 : E1.Nodup) (n2 : E2.Nodup) (s1 : ∀ b ∈ E1, b ∈ D1) (s2 : ∀ b ∈ E2, b ∈ D2) : (E1 ++ E2).Nodup :=
  List.nodup_append.2 ⟨n1, n2, fun a ha b hb e => (nodup_parts h).2.2 a (s1 a ha) (e ▸ s2 b hb)⟩
def mkBox (a : Int) (m : Box) : Box := ⟨a, mtext (a + 1), a + 1 + 1, a + 1 + 1 + 1, a + 1 + 1 + 1 + 1, mkMails (a + 1 + 1 + 1 + 1 + 1) m.ml, mkInts (a + 1 + 1 + 1 + 1 + 1 + cMails m.ml) m.go⟩
theorem mkBox_one (a : Int) (m : Box) : mkBoxes a [m] = [mkBox a m] := by
  simp only [mkBoxes, mkBox]
  rw [show a + 1 + 1 = a + 2 by omega, show a + 2 + 1 = a + 3 by omega, show a + 3 + 1 = a + 4 by omega, show a + 4 + 1 = a + 5 by omega]
set_option maxHeartbeats 2000000 in
set_option maxRecDepth 100000 in
theorem markBoxes_calls (w : World) (D : List Nat) (v : Value) (l : List Box) (k : Int) (h : owBoxes w D v l) (hN : D.Nodup) (h0 : 0 ≤ k) (h1 : k + cBoxes l ≤ 1000000000000) :
    Calls Try.prog 101 #[v, .int .i64 k] w (RetMk owBoxes D v (mkBoxes k l) (k + cBoxes l) w) := by
  obtain ⟨A, c, rfl, _, hm⟩ := rd_len (owRow_rd ow_box h)
  have HO := Aside.mk h
  have HN := Aside.mk hN
  have HK := Aside.mk h1
  clear h hN h1
  go_enter Try.func101, Try.ntmps101
  go_wp2
  go_loopw [1, 5] (fun v1 v5 wr => ∃ (i : Nat) (a : Int) (D' : List Nat), i ≤ l.length ∧ v5 = .int .i64 i ∧ v1 = .int .i64 a ∧ 0 ≤ a ∧ Aside (a = k + cBoxes (l.take i)) ∧ Aside (owBoxes wr D' (.slice A l.length c) (mkBoxes k (l.take i) ++ l.drop i)) ∧ Aside D'.Nodup ∧ Aside (∀ b ∈ D', b ∈ D) ∧ Aside (Keep D w wr)) (fun _ v5 _ => l.length - (intOf v5).toNat)
  case atStart => exact ⟨0, _, D, Nat.zero_le _, rfl, rfl, h0, ⟨by simp [cBoxes]⟩, HO, HN, ⟨fun _ h => h⟩, ⟨Keep.refl _ _⟩⟩
  case round =>
    clear HO HN h0
    obtain ⟨i, a, D', hi, rfl, rfl, ha0, HA, HO, HN, HD, HB⟩ := hrel
    have hd : (mkBoxes k (l.take i)).length = i := by rw [mkBoxes_len, List.length_take]; omega
    by_cases hlt : i < l.length
    · have hx : i < (mkBoxes k (l.take i) ++ l.drop i).length := by rw [len_at hd hi]; exact hlt
      obtain ⟨g, c', Di, xi, hv, hgD, hgi, hDi, hnd, hRi, hcell, hfr, ⟨cur, hcur⟩, F⟩ := owRow_focus ow_box HO.out HN.out i hx (by omega)
      have hgx := get_at hd hlt hx
      rw [hgx] at hRi
      have hA : A = some ⟨g, 0, none⟩ := by injection hv
      subst hA
      have HT : Aside (l.take (i + 1) = l.take i ++ [l[i]]) := ⟨List.take_succ_eq_append_getElem hlt⟩
      have hcl : cBoxes l = cBoxes (l.take i) + cBox l[i] + cBoxes (l.drop (i + 1)) := by
        conv => lhs; rw [← List.take_append_drop i l, cBoxes_app, List.drop_eq_getElem_cons hlt, cBoxes]
        omega
      have hcn := cBoxes_nn (l.drop (i + 1))
      generalize l[i] = m at hRi HT hcl
      obtain ⟨fv, gv, D1, D2, rfl, rfl, hof, hog⟩ := hRi
      obtain ⟨A2, c2, rfl⟩ := cell_own' ow_mail hof
      obtain ⟨A3, c3, rfl⟩ := cell_own' ow_int hog
      obtain ⟨n1, n2, n12⟩ := nodup_parts hnd
      have hmn := cMails_nn m.ml
      have hk1 : a + cBox m ≤ 1000000000000 := by have := HA.out; have := HK.out; omega
      have hk2 : a + 5 + cMails m.ml + (m.go.length : Int) ≤ 1000000000000 := by unfold cBox at hk1; omega
      have y0 := hcell 0 _ rfl
      have y1 := hcell 1 _ rfl
      have y2 := hcell 2 _ rfl
      have y3 := hcell 3 _ rfl
      have y4 := hcell 4 _ rfl
      have y5 := hcell 5 _ rfl
      have y6 := hcell 6 _ rfl
      have f0 := hfr (i * 7 + 0)
      have HFR := Aside.mk hfr
      have HF := Aside.mk F
      have HC := Aside.mk hcur
      have HG := Aside.mk (HD.out g hgD)
      have HL := Aside.mk (owRow_lt ow_box HO.out g hgD)
      have hg1 : g ∉ D1 := fun h => hgi (by simp [h])
      have hg2 : g ∉ D2 := fun h => hgi (by simp [h])
      have HI1 := Aside.mk hg1
      have HI2 := Aside.mk hg2
      have HDi := Aside.mk hDi
      have HND := Aside.mk hnd
      have N1 := Aside.mk n1
      have N2 := Aside.mk n2
      have N12 := Aside.mk n12
      have HOF := Aside.mk hof
      have HOG := Aside.mk hog
      have HS := Aside.mk (set_at hd hlt (mkBox a m))
      rw [Nat.add_zero] at y0 f0
      clear F hcell hfr hcur hgi hDi hnd hv hd hx hgx hk1 hcl hcn hof hog hg1 hg2 n1 n2 n12
      go_wp2_with (first
        | (go_at_call 155; refine (markTextI_calls _ _ (by omega) (by omega)).mono ?_; rintro e w1 ⟨rfl, hb⟩; have z0 := cell_b (p := ⟨g, i * 7, none⟩) hb (v := .int .i64 a) (by go_simp); have z1 := cell_b (p := ⟨g, i * 7 + 1, none⟩) hb (v := .string m.nm) (by go_simp); have z2 := cell_b (p := ⟨g, i * 7 + 2, none⟩) hb (v := .int .i64 m.t) (by go_simp); have z3 := cell_b (p := ⟨g, i * 7 + 3, none⟩) hb (v := .int .i64 m.b) (by go_simp); have z4 := cell_b (p := ⟨g, i * 7 + 4, none⟩) hb (v := .int .i64 m.nx) (by go_simp); have z5 := cell_b (p := ⟨g, i * 7 + 5, none⟩) hb (v := .slice A2 m.ml.length c2) (by go_simp); have z6 := cell_b (p := ⟨g, i * 7 + 6, none⟩) hb (v := .slice A3 m.go.length c3) (by go_simp); have e1 : ∀ j, w1.frozen? ⟨g, j, none⟩ = false := (fun j => (hb.frozen (p := ⟨g, j, none⟩) (by simp [World.setCell]; exact HL.out)).trans (by rw [World.frozen?_setCell]; exact HFR.out j)); have HB1 := Aside.mk hb; have g1 := e1 (i * 7 + 1); have g2 := e1 (i * 7 + 2); have g3 := e1 (i * 7 + 3); have g4 := e1 (i * 7 + 4); clear hb e1)
        | (go_at_call 82; refine (markMails_calls _ D1 _ m.ml _ (owRow_set ow_mail (owRow_set ow_mail (owRow_set ow_mail (owRow_set ow_mail (owRow_below ow_mail (owRow_set ow_mail HOF.out HI1.out _) HB1.out) HI1.out _) HI1.out _) HI1.out _) HI1.out _) N1.out (by omega) (by omega)).mono ?_; rintro e w2 ⟨rfl, ⟨E1, ho, hnd2, hsub⟩, hk⟩; have x0 := keep_cell (p := ⟨g, i * 7, none⟩) hk (u := .int .i64 a) (by go_simp) HI1.out; have x1 := keep_cell (p := ⟨g, i * 7 + 1, none⟩) hk (u := .string (mtext (a + 1))) (by go_simp) HI1.out; have x2 := keep_cell (p := ⟨g, i * 7 + 2, none⟩) hk (u := .int .i64 (a + 1 + 1)) (by go_simp) HI1.out; have x3 := keep_cell (p := ⟨g, i * 7 + 3, none⟩) hk (u := .int .i64 (a + 1 + 1 + 1)) (by go_simp) HI1.out; have x4 := keep_cell (p := ⟨g, i * 7 + 4, none⟩) hk (u := .int .i64 (a + 1 + 1 + 1 + 1)) (by go_simp) HI1.out; have x5 := keep_cell (p := ⟨g, i * 7 + 5, none⟩) hk (u := .slice A2 m.ml.length c2) (by go_simp) HI1.out; have x6 := keep_cell (p := ⟨g, i * 7 + 6, none⟩) hk (u := .slice A3 m.go.length c3) (by go_simp) HI1.out; have HM := Aside.mk ho; have NM := Aside.mk hnd2; have SM := Aside.mk hsub; have KM := Aside.mk hk; clear ho hnd2 hsub hk)
        | (go_at_call 83; refine (markInts_calls _ D2 _ m.go _ (owRow_mov ow_int (owRow_set ow_int (owRow_set ow_int (owRow_set ow_int (owRow_set ow_int (owRow_below ow_int (owRow_set ow_int HOG.out HI2.out _) HB1.out) HI2.out _) HI2.out _) HI2.out _) HI2.out _) (fun b hb => KM.out.block b (by have h1 := owRow_lt ow_int HOG.out b hb; have h2 := HB1.out.size; simp [World.setCell] at h2 ⊢; omega) (fun h => N12.out b h hb))) N2.out (by omega) (by omega)).mono ?_; rintro e w3 ⟨rfl, ⟨E2, ho, hnd2, hsub⟩, hk⟩; have v0 := keep_cell hk x0 HI2.out; have v1 := keep_cell hk x1 HI2.out; have v2 := keep_cell hk x2 HI2.out; have v3 := keep_cell hk x3 HI2.out; have v4 := keep_cell hk x4 HI2.out; have v5 := keep_cell hk x5 HI2.out; have v6 := keep_cell hk x6 HI2.out; have HM2 := Aside.mk ho; have NM2 := Aside.mk hnd2; have SM2 := Aside.mk hsub; have KM2 := Aside.mk hk; clear ho hnd2 hsub hk))
      have s1 : (wr.setCell ⟨g, i * 7, none⟩ (.int .i64 a)).heap.size = wr.heap.size := by simp [World.setCell]
      have s2 := HB1.out.size
      have s3 : w1.heap.size ≤ w2.heap.size := by have := KM.out.size; simpa [World.setCell] using this
      have hl := HL.out
      have e0 : Seg g (i * 7) (i * 7 + 7) wr w1 := ((Seg.refl HC.out).set (i * 7) (Nat.le_refl _) (by omega) (.int .i64 a)).keep (HB1.out.block g (by omega))
      have e1 := ((((e0.set (i * 7 + 1) (by omega) (by omega) (.string (mtext (a + 1)))).set (i * 7 + 2) (by omega) (by omega) (.int .i64 (a + 1 + 1))).set (i * 7 + 3) (by omega) (by omega) (.int .i64 (a + 1 + 1 + 1))).set (i * 7 + 4) (by omega) (by omega) (.int .i64 (a + 1 + 1 + 1 + 1))).keep (KM.out.block g (by simp [World.setCell]; omega) HI1.out)
      have e2 := e1.keep (KM2.out.block g (by omega) HI2.out)
      have hE : ∀ j u, ([.int .i64 a, .string (mtext (a + 1)), .int .i64 (a + 1 + 1), .int .i64 (a + 1 + 1 + 1), .int .i64 (a + 1 + 1 + 1 + 1), .slice A2 m.ml.length c2, .slice A3 m.go.length c3] : List Value)[j]? = some u → w3.cell? ⟨g, i * 7 + j, none⟩ = some u := fun j u hu => by
        match j, hu with
        | 0, hu => cases hu; exact v0
        | 1, hu => cases hu; exact v1
        | 2, hu => cases hu; exact v2
        | 3, hu => cases hu; exact v3
        | 4, hu => cases hu; exact v4
        | 5, hu => cases hu; exact v5
        | 6, hu => cases hu; exact v6
      obtain ⟨D3, k1, k2, k3⟩ := HF.out w3 (E1 ++ E2) _ (mkBox a m)
        (fun b hb1 hb2 hb3 => by
          have hlb := owRow_lt ow_box HO.out b hb1
          rw [List.mem_append, not_or] at hb3
          rw [KM2.out.block b (by omega) hb3.2, KM.out.block b (by simp [World.setCell]; omega) hb3.1, Below.heap_setCell _ _ _ b hb2, Below.heap_setCell _ _ _ b hb2, Below.heap_setCell _ _ _ b hb2, Below.heap_setCell _ _ _ b hb2, HB1.out.block b (by omega), Below.heap_setCell _ _ _ b hb2]) e2 hE
        ⟨_, _, E1, E2, rfl, rfl, owRow_mov ow_mail HM.out (fun b hb => KM2.out.block b (owRow_lt ow_mail HM.out b hb) (N12.out b (SM.out b hb))), HM2.out⟩ (nodup_mk HND.out NM.out NM2.out SM.out SM2.out)
        (fun b hb => .inl (by rw [List.mem_append] at hb ⊢; exact hb.imp (SM.out b) (SM2.out b)))
      rw [HS.out] at k1
      have hsub : ∀ b ∈ E1 ++ E2, b ∈ D := fun b hb => HD.out b (HDi.out b (by rw [List.mem_append] at hb ⊢; exact hb.imp (SM.out b) (SM2.out b)))
      have HB5 : Aside (Keep D w w3) := ⟨((((((((HB.out.set (p := ⟨g, i * 7, none⟩) HG.out _).trans (Keep.of_below HB1.out)).set (p := ⟨g, i * 7 + 1, none⟩) HG.out _).set (p := ⟨g, i * 7 + 2, none⟩) HG.out _).set (p := ⟨g, i * 7 + 3, none⟩) HG.out _).set (p := ⟨g, i * 7 + 4, none⟩) HG.out _).trans (KM.out.mono fun b hb => HD.out b (HDi.out b (by simp [hb]))))).trans (KM2.out.mono fun b hb => HD.out b (HDi.out b (by simp [hb])))⟩
      go_roundw
      case rel => exact ⟨i + 1, _, D3, by omega, by go_num, rfl, by omega, ⟨by have := HA.out; rw [HT.out, cBoxes_app]; simp only [cBoxes, cBox]; omega⟩, ⟨by rw [HT.out, mkBoxes_app, ← HA.out, mkBox_one]; exact k1⟩, ⟨k2⟩, ⟨fun b hb => (k3 b hb).elim (HD.out b) (hsub b)⟩, HB5⟩
      case measure => simp [intOf]; omega
    · obtain rfl : i = l.length := by omega
      clear hlt
      go_wp2
      go_ret
      exact ⟨ret_i (by have := HA.out; rw [List.take_length] at this; exact this), ⟨D', by have := HO.out; rw [List.drop_length, List.append_nil, List.take_length] at this; exact this, HN.out, HD.out⟩, HB.out⟩
def markedBox (b : Box) (k : Int) : Box := { b with ml := mkMails k b.ml, go := mkInts (k + cMails b.ml) b.go }
set_option maxHeartbeats 2000000 in
set_option maxRecDepth 100000 in
theorem markBox_calls (w : World) (D1 D2 : List Nat) (mv gv : Value) (b : Box) (k : Int) (h : owMails w D1 mv b.ml) (hg : owInts w D2 gv b.go) (hN : (D1 ++ D2).Nodup) (h0 : 0 ≤ k) (h1 : k + cMails b.ml + b.go.length ≤ 1000000000000) :
    Calls Try.prog 16 #[.agg #[.int .i64 b.g, .string b.nm, .int .i64 b.t, .int .i64 b.b, .int .i64 b.nx, mv, gv], .int .i64 k] w fun e w' => e = .returned (.int .i64 (k + cMails b.ml + b.go.length)) ∧ (∃ D', owBox w' D' [.int .i64 b.g, .string b.nm, .int .i64 b.t, .int .i64 b.b, .int .i64 b.nx, mv, gv] (markedBox b k) ∧ D'.Nodup ∧ ∀ x ∈ D', x ∈ D1 ++ D2) ∧ Keep (D1 ++ D2) w w' := by
  obtain ⟨A2, c2, rfl⟩ := cell_own' ow_mail h
  obtain ⟨A3, c3, rfl⟩ := cell_own' ow_int hg
  obtain ⟨n1, n2, n12⟩ := nodup_parts hN
  have HO := Aside.mk h
  have HG := Aside.mk hg
  have HN := Aside.mk hN
  have N1 := Aside.mk n1
  have N2 := Aside.mk n2
  have N12 := Aside.mk n12
  have L1 : Aside (w.heap.size ∉ D1) := ⟨fun hh => by have := owRow_lt ow_mail h _ hh; omega⟩
  have hcn := cMails_nn b.ml
  clear h hg hN n1 n2 n12
  go_enter Try.func16, Try.ntmps16
  go_wp2_with (first
    | (go_at_call 82; refine (markMails_calls _ D1 _ b.ml k (owRow_alloc ow_mail HO.out _) N1.out h0 (by omega)).mono ?_; rintro e w1 ⟨rfl, ⟨E1, ho, hnd2, hsub⟩, hk⟩; have z := keep_cell (p := ⟨w.heap.size, 6, none⟩) hk (u := .slice A3 b.go.length c3) (by simp) L1.out; have HM := Aside.mk ho; have NM := Aside.mk hnd2; have SM := Aside.mk hsub; have KM := Aside.mk hk; clear ho hnd2 hsub hk)
    | (go_at_call 83; refine (markInts_calls _ D2 _ b.go _ (owRow_mov ow_int (owRow_alloc ow_int HG.out _) (fun x hb => KM.out.block x (by have h1 := owRow_lt ow_int HG.out x hb; simp; omega) (fun h => N12.out x h hb))) N2.out (by omega) (by omega)).mono ?_; rintro e w3 ⟨rfl, ⟨E2, ho, hnd2, hsub⟩, hk⟩; have HM2 := Aside.mk ho; have NM2 := Aside.mk hnd2; have SM2 := Aside.mk hsub; have KM2 := Aside.mk hk; clear ho hnd2 hsub hk))
  go_ret
  exact ⟨rfl, ⟨E1 ++ E2, ⟨_, _, E1, E2, rfl, rfl, owRow_mov ow_mail HM.out (fun x hb => KM2.out.block x (owRow_lt ow_mail HM.out x hb) (N12.out x (SM.out x hb))), HM2.out⟩, nodup_mk HN.out NM.out NM2.out SM.out SM2.out, fun x hb => by rw [List.mem_append] at hb ⊢; exact hb.imp (SM.out x) (SM2.out x)⟩, ((Keep.refl _ w).alloc _).trans ((KM.out.mono fun x hb => by simp [hb]).trans (KM2.out.mono fun x hb => by simp [hb]))⟩
def markedStore (b : Store) (k : Int) : Store := { b with bx := mkBoxes k b.bx, go := mkInts (k + cBoxes b.bx) b.go }
set_option maxHeartbeats 2000000 in
set_option maxRecDepth 100000 in
theorem markStore_calls (w : World) (D1 D2 : List Nat) (mv gv : Value) (b : Store) (k : Int) (h : owBoxes w D1 mv b.bx) (hg : owInts w D2 gv b.go) (hN : (D1 ++ D2).Nodup) (h0 : 0 ≤ k) (h1 : k + cBoxes b.bx + b.go.length ≤ 1000000000000) :
    Calls Try.prog 23 #[.agg #[.int .i64 b.by_, .int .i64 b.tm, mv, gv], .int .i64 k] w fun e w' => e = .returned (.int .i64 (k + cBoxes b.bx + b.go.length)) ∧ (∃ D', owStore w' D' [.int .i64 b.by_, .int .i64 b.tm, mv, gv] (markedStore b k) ∧ D'.Nodup ∧ ∀ x ∈ D', x ∈ D1 ++ D2) ∧ Keep (D1 ++ D2) w w' := by
  obtain ⟨A2, c2, rfl⟩ := cell_own' ow_box h
  obtain ⟨A3, c3, rfl⟩ := cell_own' ow_int hg
  obtain ⟨n1, n2, n12⟩ := nodup_parts hN
  have HO := Aside.mk h
  have HG := Aside.mk hg
  have HN := Aside.mk hN
  have N1 := Aside.mk n1
  have N2 := Aside.mk n2
  have N12 := Aside.mk n12
  have L1 : Aside (w.heap.size ∉ D1) := ⟨fun hh => by have := owRow_lt ow_box h _ hh; omega⟩
  have hcn := cBoxes_nn b.bx
  clear h hg hN n1 n2 n12
  go_enter Try.func23, Try.ntmps23
  go_wp2_with (first
    | (go_at_call 101; refine (markBoxes_calls _ D1 _ b.bx k (owRow_alloc ow_box HO.out _) N1.out h0 (by omega)).mono ?_; rintro e w1 ⟨rfl, ⟨E1, ho, hnd2, hsub⟩, hk⟩; have z := keep_cell (p := ⟨w.heap.size, 3, none⟩) hk (u := .slice A3 b.go.length c3) (by simp) L1.out; have HM := Aside.mk ho; have NM := Aside.mk hnd2; have SM := Aside.mk hsub; have KM := Aside.mk hk; clear ho hnd2 hsub hk)
    | (go_at_call 83; refine (markInts_calls _ D2 _ b.go _ (owRow_mov ow_int (owRow_alloc ow_int HG.out _) (fun x hb => KM.out.block x (by have h1 := owRow_lt ow_int HG.out x hb; simp; omega) (fun h => N12.out x h hb))) N2.out (by omega) (by omega)).mono ?_; rintro e w3 ⟨rfl, ⟨E2, ho, hnd2, hsub⟩, hk⟩; have HM2 := Aside.mk ho; have NM2 := Aside.mk hnd2; have SM2 := Aside.mk hsub; have KM2 := Aside.mk hk; clear ho hnd2 hsub hk))
  go_ret
  exact ⟨rfl, ⟨E1 ++ E2, ⟨_, _, E1, E2, rfl, rfl, owRow_mov ow_box HM.out (fun x hb => KM2.out.block x (owRow_lt ow_box HM.out x hb) (N12.out x (SM.out x hb))), HM2.out⟩, nodup_mk HN.out NM.out NM2.out SM.out SM2.out, fun x hb => by rw [List.mem_append] at hb ⊢; exact hb.imp (SM.out x) (SM2.out x)⟩, ((Keep.refl _ w).alloc _).trans ((KM.out.mono fun x hb => by simp [hb]).trans (KM2.out.mono fun x hb => by simp [hb]))⟩
end Go.Proofs.Ytjfjpabfkembcaa.H
