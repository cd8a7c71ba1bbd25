/- The walk of the statement on mails. Printed by this session's gen_lawmails.py. -/
import Derived.Test.YtjfjpabfkembcaaHMailsP
import Derived.Test.YtjfjpabfkembcaaHMailD
import Derived.Test.YtjfjpabfkembcaaHSameMailS
import Derived.Test.YtjfjpabfkembcaaHJoinMail
namespace Go.Proofs.Ytjfjpabfkembcaa.H
open Go.RowKit
set_option linter.unusedVariables false
set_option linter.unusedSimpArgs false
theorem joinMail_callsJ (w : World) (fa fb : Value) (a b j : Mail) (hj : joinMail a b = j) (ha : rdRegs w fa a.fl) (hb : rdRegs w fb b.fl) (hl : a.fl.length ≤ 4000000) :
    Calls Try.prog 28 #[.agg #[.int .i64 a.g, .int .i64 a.u, fa, .string a.tx], .agg #[.int .i64 b.g, .int .i64 b.u, fb, .string b.tx]] w (RetMail w j) := hj ▸ joinMail_calls w fa fb a b ha hb hl
theorem specJoinMail_callsJ (w : World) (fa fb : Value) (a b j : Mail) (hj : joinMail a b = j) (ha : rdRegs w fa a.fl) (hb : rdRegs w fb b.fl) (hl : a.fl.length ≤ 4000000) :
    Calls Try.prog 26 #[.agg #[.int .i64 a.g, .int .i64 a.u, fa, .string a.tx], .agg #[.int .i64 b.g, .int .i64 b.u, fb, .string b.tx]] w (RetMail w j) := hj ▸ specJoinMail_calls w fa fb a b ha hb hl
set_option maxHeartbeats 20000000 in
set_option maxRecDepth 100000 in
theorem lawFnMails (w : World) (v0 : Value) (code : List Int) (h : rdBytes w v0 code) :
    Calls Try.prog 10 #[v0] w fun e w' => e = .returned (.bool true) ∧ Below w.heap.size w w' := by
  obtain ⟨A, c, rfl, _, hm⟩ := rd_len h
  have HR := Aside.mk h
  clear h
  by_cases hbig : (1048576 : Int) < (code.length : Int)
  · have HBG := Aside.mk (decide_eq_true hbig)
    go_enter Try.func10, Try.ntmps10
    go_wp2_with (go_at_call 32; refine (big_calls _ _ code HR.out).mono ?_; rintro e w1 ⟨rfl, hb⟩; rw [HBG.out]; have HB := Aside.mk hb; clear hb)
    go_ret
    exact ⟨rfl, HB.out⟩
  have HBG := Aside.mk (decide_eq_false hbig)
  clear hbig
  obtain ⟨sab, hab⟩ : ∃ t : ByteArray, t = ⟨#[97, 98]⟩ := ⟨_, rfl⟩
  obtain ⟨scd, hcd⟩ : ∃ t : ByteArray, t = ⟨#[99, 100]⟩ := ⟨_, rfl⟩
  have hab2 : sab.size = 2 := by rw [hab]; rfl
  have hcd2 : scd.size = 2 := by rw [hcd]; rfl
  have HAB := Aside.mk hab
  have HCD := Aside.mk hcd
  clear hab hcd
  go_enter Try.func10, Try.ntmps10
  rw [← HAB.out, ← HCD.out]
  go_wp2_with (fail)
  refine (big_calls _ _ code HR.out).mono ?_
  rintro e w1 ⟨rfl, hb⟩
  rw [HBG.out]
  have HB := Aside.mk hb
  clear hb HBG HAB HCD
  go_wp2_with (fail)
  refine (drawMailText_calls _ A c code (rdBytes_mov HB.out HR.out)).mono ?_
  rintro e w2 ⟨m, v, rfl, hr, hl, ht, hb⟩
  obtain ⟨Am, cm, rfl, _, _⟩ := rd_len hr
  have Hm := Aside.mk hr
  have HTm : Aside (m.tx.size ≤ 9223372036854775807) := ⟨by omega⟩
  obtain ⟨t, ok, hT⟩ : ∃ t ok, mailT m = (t, ok) := ⟨_, _, rfl⟩
  have hts : t.size ≤ 200 := by have := mailT_size m; rw [hT] at this; exact this
  have HOK : Aside (mailOk m = ok) := ⟨by rw [← mailT_ok, hT]⟩
  have HT := Aside.mk hT
  replace HB := Aside.mk (below_step HB.out hb)
  clear hr hl ht hb hT
  have hba := below_alloc (Below.refl _ w2) (.cells #[.int .i64 m.g, .int .i64 m.u, .slice Am m.fl.length cm, .string m.tx] 58)
  replace Hm := Aside.mk (rdRegs_mov hba Hm.out)
  replace HB := Aside.mk (below_step HB.out hba)
  clear hba
  have L3 := Aside.mk (Loc.new w2 #[.int .i64 m.g, .int .i64 m.u, .slice Am m.fl.length cm, .string m.tx] 58)
  (try clear l3)
  (try clear q3)
  (try clear f3)
  have l3 := L3.out.cells
  have q3 := L3.out.lt
  have f3 := L3.out.free
  go_wp2_with (fail)
  have hcon := mailText_calls _ _ m Hm.out HTm.out
  rw [HT.out] at hcon
  refine hcon.mono ?_
  clear hcon
  rintro e w3 ⟨rfl, hb⟩
  replace L3 := Aside.mk (L3.out.below hb)
  replace Hm := Aside.mk (rdRegs_mov hb Hm.out)
  replace HB := Aside.mk (below_step HB.out hb)
  clear hb
  (try clear l3)
  (try clear q3)
  (try clear f3)
  have l3 := L3.out.cells
  have q3 := L3.out.lt
  have f3 := L3.out.free
  have z1 : ¬ (9223372036854775807 < 2 + t.size) := by omega
  have z2 : ¬ (9223372036854775807 < 2 + t.size + 2) := by omega
  obtain ⟨x, q, right, hX⟩ : ∃ x q right, readMail (sab ++ t ++ scd) 2 = (x, q, right) := ⟨_, _, _, rfl⟩
  have HX := Aside.mk hX
  clear hX
  go_wp2_with (fail)
  have hcon := readMail_calls w3 (sab ++ t ++ scd) 2 (by rw [ByteArray.size_append, ByteArray.size_append]; omega)
  rw [HX.out] at hcon
  unfold RetRM at hcon
  dsimp only at hcon
  refine hcon.mono ?_
  clear hcon
  rintro e w4 ⟨fv, D, rfl, ho, _, hb⟩
  obtain ⟨Ax, cx, rfl⟩ := cell_own ow_reg ho
  have Hx := Aside.mk (owRow_rd ow_reg ho)
  clear ho z1 z2
  replace L3 := Aside.mk (L3.out.below hb)
  replace Hm := Aside.mk (rdRegs_mov hb Hm.out)
  replace HB := Aside.mk (below_step HB.out hb)
  clear hb
  have hba := below_alloc (Below.refl _ w4) (.cells #[.int .i64 x.g, .int .i64 x.u, .slice Ax x.fl.length cx, .string x.tx] 58)
  replace L3 := Aside.mk (L3.out.below hba)
  replace Hm := Aside.mk (rdRegs_mov hba Hm.out)
  replace Hx := Aside.mk (rdRegs_mov hba Hx.out)
  replace HB := Aside.mk (below_step HB.out hba)
  clear hba
  have L6 := Aside.mk (Loc.new w4 #[.int .i64 x.g, .int .i64 x.u, .slice Ax x.fl.length cx, .string x.tx] 58)
  (try clear l3)
  (try clear q3)
  (try clear f3)
  have l3 := L3.out.cells
  have q3 := L3.out.lt
  have f3 := L3.out.free
  (try clear l6)
  (try clear q6)
  (try clear f6)
  have l6 := L6.out.cells
  have q6 := L6.out.lt
  have f6 := L6.out.free
  go_wp2_with (fail)
  refine (drawReadMail_calls _ A c code (rdBytes_mov HB.out HR.out)).mono ?_
  rintro e w5 ⟨u, p, rfl, hus, hpu, hb⟩
  replace L3 := Aside.mk (L3.out.below hb)
  replace L6 := Aside.mk (L6.out.below hb)
  replace Hm := Aside.mk (rdRegs_mov hb Hm.out)
  replace Hx := Aside.mk (rdRegs_mov hb Hx.out)
  replace HB := Aside.mk (below_step HB.out hb)
  clear hb
  (try clear l3)
  (try clear q3)
  (try clear f3)
  have l3 := L3.out.cells
  have q3 := L3.out.lt
  have f3 := L3.out.free
  (try clear l6)
  (try clear q6)
  (try clear f6)
  have l6 := L6.out.cells
  have q6 := L6.out.lt
  have f6 := L6.out.free
  obtain ⟨y, ny, may, hY⟩ : ∃ y ny may, readMail u (p : Int) = (y, ny, may) := ⟨_, _, _, rfl⟩
  have HY := Aside.mk hY
  have HTy : Aside (y.tx.size ≤ 9223372036854775807) := ⟨by have := readMail_tx u (p : Int); rw [hY] at this; dsimp only at this; omega⟩
  clear hY
  go_wp2_with (fail)
  have hcon := readMail_calls w5 u (p : Int) (by omega)
  rw [HY.out] at hcon
  unfold RetRM at hcon
  dsimp only at hcon
  refine hcon.mono ?_
  clear hcon
  rintro e w6 ⟨fv, D, rfl, ho, _, hb⟩
  obtain ⟨Ay, cy, rfl⟩ := cell_own ow_reg ho
  have Hy := Aside.mk (owRow_rd ow_reg ho)
  clear ho
  replace L3 := Aside.mk (L3.out.below hb)
  replace L6 := Aside.mk (L6.out.below hb)
  replace Hm := Aside.mk (rdRegs_mov hb Hm.out)
  replace Hx := Aside.mk (rdRegs_mov hb Hx.out)
  replace HB := Aside.mk (below_step HB.out hb)
  clear hb
  have hba := below_alloc (Below.refl _ w6) (.cells #[.int .i64 y.g, .int .i64 y.u, .slice Ay y.fl.length cy, .string y.tx] 58)
  replace L3 := Aside.mk (L3.out.below hba)
  replace L6 := Aside.mk (L6.out.below hba)
  replace Hm := Aside.mk (rdRegs_mov hba Hm.out)
  replace Hx := Aside.mk (rdRegs_mov hba Hx.out)
  replace Hy := Aside.mk (rdRegs_mov hba Hy.out)
  replace HB := Aside.mk (below_step HB.out hba)
  clear hba
  have L11 := Aside.mk (Loc.new w6 #[.int .i64 y.g, .int .i64 y.u, .slice Ay y.fl.length cy, .string y.tx] 58)
  (try clear l3)
  (try clear q3)
  (try clear f3)
  have l3 := L3.out.cells
  have q3 := L3.out.lt
  have f3 := L3.out.free
  (try clear l6)
  (try clear q6)
  (try clear f6)
  have l6 := L6.out.cells
  have q6 := L6.out.lt
  have f6 := L6.out.free
  (try clear l11)
  (try clear q11)
  (try clear f11)
  have l11 := L11.out.cells
  have q11 := L11.out.lt
  have f11 := L11.out.free
  go_wp2_with (fail)
  have hcon := specReadMail_calls (w6.alloc (.cells #[.int .i64 y.g, .int .i64 y.u, .slice Ay y.fl.length cy, .string y.tx] 58)) u (p : Int) (by omega)
  rw [HY.out] at hcon
  unfold RetRM at hcon
  dsimp only at hcon
  refine hcon.mono ?_
  clear hcon
  rintro e w7 ⟨fv, D, rfl, ho, _, hb⟩
  obtain ⟨Az, cz, rfl⟩ := cell_own ow_reg ho
  clear ho
  replace L3 := Aside.mk (L3.out.below hb)
  replace L6 := Aside.mk (L6.out.below hb)
  replace L11 := Aside.mk (L11.out.below hb)
  replace Hm := Aside.mk (rdRegs_mov hb Hm.out)
  replace Hx := Aside.mk (rdRegs_mov hb Hx.out)
  replace Hy := Aside.mk (rdRegs_mov hb Hy.out)
  replace HB := Aside.mk (below_step HB.out hb)
  clear hb
  have hba := below_alloc (Below.refl _ w7) (.cells #[.int .i64 y.g, .int .i64 y.u, .slice Az y.fl.length cz, .string y.tx] 58)
  replace L3 := Aside.mk (L3.out.below hba)
  replace L6 := Aside.mk (L6.out.below hba)
  replace L11 := Aside.mk (L11.out.below hba)
  replace Hm := Aside.mk (rdRegs_mov hba Hm.out)
  replace Hx := Aside.mk (rdRegs_mov hba Hx.out)
  replace Hy := Aside.mk (rdRegs_mov hba Hy.out)
  replace HB := Aside.mk (below_step HB.out hba)
  clear hba
  (try clear l3)
  (try clear q3)
  (try clear f3)
  have l3 := L3.out.cells
  have q3 := L3.out.lt
  have f3 := L3.out.free
  (try clear l6)
  (try clear q6)
  (try clear f6)
  have l6 := L6.out.cells
  have q6 := L6.out.lt
  have f6 := L6.out.free
  (try clear l11)
  (try clear q11)
  (try clear f11)
  have l11 := L11.out.cells
  have q11 := L11.out.lt
  have f11 := L11.out.free
  obtain ⟨ag, ok2, hG⟩ : ∃ t ok, mailT y = (t, ok) := ⟨_, _, rfl⟩
  have HG := Aside.mk hG
  have HAG : Aside (may = true → ag.size ≤ (u.extract p u.size).size ∧ (((u.extract p u.size).extract 0 ag.size).toList == ag.toList) = true) := ⟨fun hm => by
    have hy := HY.out
    rw [hm] at hy
    have := mail_again hy hpu
    rw [hG] at this
    exact this⟩
  clear hG
  go_wp2_with (fail)
  have hcon := mailText_calls _ _ y Hy.out HTy.out
  rw [HG.out] at hcon
  refine hcon.mono ?_
  clear hcon
  rintro e w8 ⟨rfl, hb⟩
  replace L3 := Aside.mk (L3.out.below hb)
  replace L6 := Aside.mk (L6.out.below hb)
  replace L11 := Aside.mk (L11.out.below hb)
  replace Hm := Aside.mk (rdRegs_mov hb Hm.out)
  replace Hx := Aside.mk (rdRegs_mov hb Hx.out)
  replace Hy := Aside.mk (rdRegs_mov hb Hy.out)
  replace HB := Aside.mk (below_step HB.out hb)
  clear hb HG HTy
  clear Hy L11 l11 q11 f11
  (try clear l3)
  (try clear q3)
  (try clear f3)
  have l3 := L3.out.cells
  have q3 := L3.out.lt
  have f3 := L3.out.free
  (try clear l6)
  (try clear q6)
  (try clear f6)
  have l6 := L6.out.cells
  have q6 := L6.out.lt
  have f6 := L6.out.free
  go_wp2_with (fail)
  refine (drawJoinMail_calls _ A c code (rdBytes_mov HB.out HR.out)).mono ?_
  rintro e w9 ⟨a, b, va, vb, rfl, hra, hrb, ⟨hla, hlb⟩, ⟨hta, htb⟩, hb⟩
  obtain ⟨Aa, ca, rfl, _, _⟩ := rd_len hra.now
  obtain ⟨Ab, cb, rfl, _, _⟩ := rd_len hrb.now
  have Ha := Aside.mk hra.now
  have Hb := Aside.mk hrb.now
  have HLa : Aside (a.fl.length ≤ 4000000) := ⟨by omega⟩
  clear hra hrb hla hlb hta htb
  replace L3 := Aside.mk (L3.out.below hb)
  replace L6 := Aside.mk (L6.out.below hb)
  replace Hm := Aside.mk (rdRegs_mov hb Hm.out)
  replace Hx := Aside.mk (rdRegs_mov hb Hx.out)
  replace HB := Aside.mk (below_step HB.out hb)
  clear hb
  (try clear l3)
  (try clear q3)
  (try clear f3)
  have l3 := L3.out.cells
  have q3 := L3.out.lt
  have f3 := L3.out.free
  (try clear l6)
  (try clear q6)
  (try clear f6)
  have l6 := L6.out.cells
  have q6 := L6.out.lt
  have f6 := L6.out.free
  obtain ⟨j, hj⟩ : ∃ j, joinMail a b = j := ⟨_, rfl⟩
  have HJ := Aside.mk hj
  have e1 : IntKind.i64.wrap (2 + (t.size : Int)) = 2 + (t.size : Int) := by rw [IntKind.wrap_i64]; omega
  have p1 : (p : Int) ≤ (u.size : Int) := by omega
  have p0 : (0 : Int) ≤ (p : Int) := by omega
  have HQ : Aside (ok = true → (m, 2 + (t.size : Int), true) = (x, q, right)) := ⟨fun hk => by
    have h1 := HT.out
    rw [hk] at h1
    rw [← HX.out]
    exact (mail_round h1 hab2).symm⟩
  clear hj HT HX hts hus hpu
  cases ok
  · cases may
    · skip
      clear HQ
      clear HAG
      go_wp2
      clear l3 q3 f3 l6 q6 f6
      refine zBegin (S := (fun w' => Loc w' w2.heap.size #[.int .i64 m.g, .int .i64 m.u, .slice Am m.fl.length cm, .string m.tx] 58 ∧ Loc w' w4.heap.size #[.int .i64 x.g, .int .i64 x.u, .slice Ax x.fl.length cx, .string x.tx] 58 ∧ Loc w' w9.heap.size #[.int .i64 a.g, .int .i64 a.u, .slice Aa a.fl.length ca, .string a.tx] 58 ∧ Loc w' (w9.heap.size + 1) #[.int .i64 b.g, .int .i64 b.u, .slice Ab b.fl.length cb, .string b.tx] 58 ∧ Aside (Below w9.heap.size w9 w'))) (z := 74) (by kernel_rfl) (by exact ⟨((L3.out.alloc _).alloc _).drew', ((L6.out.alloc _).alloc _).drew', ((Loc.new w9 _ _).alloc _).drew', (Loc.new1 w9 _ _ _).drew', ⟨below_drew (below_alloc (below_alloc (Below.refl _ w9) _) _)⟩⟩) (fun hHeld => ?_)
      refine zT 0 67 hHeld ?_
      refine zT 1 68 hHeld ?_
      refine zReady (rs := [2]) (by kernel_rfl) (by simp) ?_
      refine zOne (by decide) rfl (fun K hK => ?_) zNil
      go_simp
      refine (specMailOk_calls _ _ m (rdRegs_mov hHeld.2.2.2.2.out Hm.out) HTm.out).mono ?_; rintro e wk2 ⟨rfl, hb⟩; rw [HOK.out]
      refine hK.out _ _ (by exact ⟨hHeld.1.below hb, hHeld.2.1.below hb, hHeld.2.2.1.below hb, hHeld.2.2.2.1.below hb, ⟨below_step hHeld.2.2.2.2.out hb⟩⟩) (fun hHeld => ?_)
      clear hK K
      (try simp only [Act.put, List.setIfInBounds_toArray, List.set_cons_zero, List.set_cons_succ])
      clear hb
      refine zT 3 70 hHeld ?_
      refine zT 4 71 hHeld ?_
      refine zT 5 72 hHeld ?_
      refine zT 7 74 hHeld ?_
      refine zReady (rs := [6]) (by kernel_rfl) (by simp) ?_
      refine zOne (by decide) rfl (fun K hK => ?_) zNil
      go_simp
      refine (mailOk_calls _ _ m (rdRegs_mov hHeld.2.2.2.2.out Hm.out) HTm.out).mono ?_; rintro e wk6 ⟨rfl, hb⟩; rw [HOK.out]
      refine hK.out _ _ (by exact ⟨hHeld.1.below hb, hHeld.2.1.below hb, hHeld.2.2.1.below hb, hHeld.2.2.2.1.below hb, ⟨below_step hHeld.2.2.2.2.out hb⟩⟩) (fun hHeld => ?_)
      clear hK K
      (try simp only [Act.put, List.setIfInBounds_toArray, List.set_cons_zero, List.set_cons_succ])
      clear hb
      refine zT 8 75 hHeld ?_
      refine zT 9 76 hHeld ?_
      refine zT 10 77 hHeld ?_
      refine zT 11 78 hHeld ?_
      refine zT 12 79 hHeld ?_
      refine zT 13 80 hHeld ?_
      refine zU 14 81 hHeld ?_
      refine zU 15 82 hHeld ?_
      refine zU 16 83 hHeld ?_
      refine zU 17 84 hHeld ?_
      refine zU 18 85 hHeld ?_
      refine zU 19 86 hHeld ?_
      refine zU 20 87 hHeld ?_
      refine zU 21 88 hHeld ?_
      refine zU 22 89 hHeld ?_
      refine zU 23 90 hHeld ?_
      refine zU 24 91 hHeld ?_
      refine zU 25 92 hHeld ?_
      refine zU 26 93 hHeld ?_
      refine zT 27 94 hHeld ?_
      refine zT 28 95 hHeld ?_
      refine zT 29 96 hHeld ?_
      refine zT 30 97 hHeld ?_
      refine zT 31 98 hHeld ?_
      refine zT 32 99 hHeld ?_
      refine zT 33 100 hHeld ?_
      refine zT 34 101 hHeld ?_
      refine zT 35 102 hHeld ?_
      refine zT 36 103 hHeld ?_
      refine zT 37 104 hHeld ?_
      refine zT 38 105 hHeld ?_
      refine zT 39 106 hHeld ?_
      refine zT 40 107 hHeld ?_
      refine zT 41 108 hHeld ?_
      refine zT 42 109 hHeld ?_
      refine zU 43 110 hHeld ?_
      refine zU 44 111 hHeld ?_
      refine zU 45 112 hHeld ?_
      refine zU 46 113 hHeld ?_
      refine zU 47 114 hHeld ?_
      refine zT 48 115 hHeld ?_
      refine zT 49 116 hHeld ?_
      refine zT 50 117 hHeld ?_
      refine zT 51 118 hHeld ?_
      refine zT 52 119 hHeld ?_
      refine zT 54 121 hHeld ?_
      refine zT 55 122 hHeld ?_
      refine zReady (rs := [53]) (by kernel_rfl) (by simp) ?_
      refine zOne (by decide) rfl (fun K hK => ?_) zNil
      go_simp
      refine (sameMail_calls _ a b _ _ (rdRegs_mov hHeld.2.2.2.2.out Ha.out) (rdRegs_mov hHeld.2.2.2.2.out Hb.out)).mono ?_; rintro e wk53 ⟨r53, rfl, hr53, hb⟩
      refine hK.out _ _ (by exact ⟨hHeld.1.below hb, hHeld.2.1.below hb, hHeld.2.2.1.below hb, hHeld.2.2.2.1.below hb, ⟨below_step hHeld.2.2.2.2.out hb⟩⟩) (fun hHeld => ?_)
      clear hK K
      (try simp only [Act.put, List.setIfInBounds_toArray, List.set_cons_zero, List.set_cons_succ])
      have R53 := Aside.mk hr53; clear hb hr53
      refine zReady (rs := [56]) (by kernel_rfl) (by simp) ?_
      refine zOne (by decide) rfl (fun K hK => ?_) zNil
      go_simp
      refine (specSameMail_calls _ a b _ _ (rdRegs_mov hHeld.2.2.2.2.out Ha.out) (rdRegs_mov hHeld.2.2.2.2.out Hb.out)).mono ?_; rintro e wk56 ⟨r56, rfl, hr56, hb⟩; have h56 : r56 = r53 := Bool.eq_iff_iff.2 (hr56.trans R53.out.symm); subst h56
      refine hK.out _ _ (by exact ⟨hHeld.1.below hb, hHeld.2.1.below hb, hHeld.2.2.1.below hb, hHeld.2.2.2.1.below hb, ⟨below_step hHeld.2.2.2.2.out hb⟩⟩) (fun hHeld => ?_)
      clear hK K
      (try simp only [Act.put, List.setIfInBounds_toArray, List.set_cons_zero, List.set_cons_succ])
      clear hb hr56 R53
      refine zT 57 124 hHeld ?_
      refine zT 58 125 hHeld ?_
      refine zT 59 126 hHeld ?_
      refine zT 60 127 hHeld ?_
      refine zT 61 128 hHeld ?_
      refine zT 63 130 hHeld ?_
      refine zT 64 131 hHeld ?_
      refine zReady (rs := [62]) (by kernel_rfl) (by simp) ?_
      refine zOne (by decide) rfl (fun K hK => ?_) zNil
      go_simp
      refine (joinMail_callsJ _ _ _ a b j HJ.out (rdRegs_mov hHeld.2.2.2.2.out Ha.out) (rdRegs_mov hHeld.2.2.2.2.out Hb.out) HLa.out).mono ?_; rintro e wk62 ⟨fv62, D62, rfl, ho62, _, hb⟩; obtain ⟨A62, c62, rfl⟩ := cell_own ow_reg ho62
      refine hK.out _ _ (by exact ⟨hHeld.1.below hb, hHeld.2.1.below hb, hHeld.2.2.1.below hb, hHeld.2.2.2.1.below hb, ⟨below_step hHeld.2.2.2.2.out hb⟩⟩) (fun hHeld => ?_)
      clear hK K
      (try simp only [Act.put, List.setIfInBounds_toArray, List.set_cons_zero, List.set_cons_succ])
      have R62 := Aside.mk (owRow_rd ow_reg ho62); clear ho62 hb
      refine zReady (rs := [65]) (by kernel_rfl) (by simp) ?_
      refine zOne (by decide) rfl (fun K hK => ?_) zNil
      go_simp
      refine (specJoinMail_callsJ _ _ _ a b j HJ.out (rdRegs_mov hHeld.2.2.2.2.out Ha.out) (rdRegs_mov hHeld.2.2.2.2.out Hb.out) HLa.out).mono ?_; rintro e wk65 ⟨fv65, D65, rfl, ho65, _, hb⟩; obtain ⟨A65, c65, rfl⟩ := cell_own ow_reg ho65
      refine hK.out _ _ (by exact ⟨hHeld.1.below hb, hHeld.2.1.below hb, hHeld.2.2.1.below hb, hHeld.2.2.2.1.below hb, ⟨below_step hHeld.2.2.2.2.out hb⟩⟩) (fun hHeld => ?_)
      clear hK K
      (try simp only [Act.put, List.setIfInBounds_toArray, List.set_cons_zero, List.set_cons_succ])
      have R65 := Aside.mk (owRow_rd ow_reg ho65); replace R62 := Aside.mk (rdRegs_mov hb R62.out); clear ho65 hb
      refine zReady (rs := [66]) (by kernel_rfl) (by simp) ?_
      refine zOne (by decide) rfl (fun K hK => ?_) zNil
      go_simp
      refine (specSameMail_calls _ j j _ _ R62.out R65.out).mono ?_; rintro e wk66 ⟨r66, rfl, hr66, hb⟩; replace hr66 := hr66.2 rfl; subst hr66
      refine hK.out _ _ (by exact ⟨hHeld.1.below hb, hHeld.2.1.below hb, hHeld.2.2.1.below hb, hHeld.2.2.2.1.below hb, ⟨below_step hHeld.2.2.2.2.out hb⟩⟩) (fun hHeld => ?_)
      clear hK K
      (try simp only [Act.put, List.setIfInBounds_toArray, List.set_cons_zero, List.set_cons_succ])
      clear R62 R65 hb
      refine zT 67 134 hHeld ?_
      refine zT 68 135 hHeld ?_
      refine zT 69 136 hHeld ?_
      refine zT 70 137 hHeld ?_
      refine zReady (rs := [71]) (by kernel_rfl) (by simp) ?_
      refine zOne (by decide) rfl (fun K hK => ?_) zNil
      go_simp
      refine (sameMail_calls _ m m _ _ (rdRegs_mov hHeld.2.2.2.2.out Hm.out) (rdRegs_mov hHeld.2.2.2.2.out Hm.out)).mono ?_; rintro e wk71 ⟨r71, rfl, hr71, hb⟩; replace hr71 := hr71.2 rfl; subst hr71
      refine hK.out _ _ (by exact ⟨hHeld.1.below hb, hHeld.2.1.below hb, hHeld.2.2.1.below hb, hHeld.2.2.2.1.below hb, ⟨below_step hHeld.2.2.2.2.out hb⟩⟩) (fun hHeld => ?_)
      clear hK K
      (try simp only [Act.put, List.setIfInBounds_toArray, List.set_cons_zero, List.set_cons_succ])
      clear hb
      refine zT 72 139 hHeld ?_
      refine zT 73 2 hHeld ?_
      refine zDone (by kernel_rfl) ?_ _
      have HB2 := hHeld.2.2.2.2
      clear hHeld
      go_wp2
      go_ret
      exact ⟨rfl, below_step HB.out HB2.out⟩
    · skip
      clear HQ
      have HAG2 := Aside.mk (HAG.out rfl)
      clear HAG
      go_wp2
      clear l3 q3 f3 l6 q6 f6
      refine zBegin (S := (fun w' => Loc w' w2.heap.size #[.int .i64 m.g, .int .i64 m.u, .slice Am m.fl.length cm, .string m.tx] 58 ∧ Loc w' w4.heap.size #[.int .i64 x.g, .int .i64 x.u, .slice Ax x.fl.length cx, .string x.tx] 58 ∧ Loc w' w9.heap.size #[.int .i64 a.g, .int .i64 a.u, .slice Aa a.fl.length ca, .string a.tx] 58 ∧ Loc w' (w9.heap.size + 1) #[.int .i64 b.g, .int .i64 b.u, .slice Ab b.fl.length cb, .string b.tx] 58 ∧ Aside (Below w9.heap.size w9 w'))) (z := 74) (by kernel_rfl) (by exact ⟨((L3.out.alloc _).alloc _).drew', ((L6.out.alloc _).alloc _).drew', ((Loc.new w9 _ _).alloc _).drew', (Loc.new1 w9 _ _ _).drew', ⟨below_drew (below_alloc (below_alloc (Below.refl _ w9) _) _)⟩⟩) (fun hHeld => ?_)
      refine zT 0 67 hHeld ?_
      refine zT 1 68 hHeld ?_
      refine zReady (rs := [2]) (by kernel_rfl) (by simp) ?_
      refine zOne (by decide) rfl (fun K hK => ?_) zNil
      go_simp
      refine (specMailOk_calls _ _ m (rdRegs_mov hHeld.2.2.2.2.out Hm.out) HTm.out).mono ?_; rintro e wk2 ⟨rfl, hb⟩; rw [HOK.out]
      refine hK.out _ _ (by exact ⟨hHeld.1.below hb, hHeld.2.1.below hb, hHeld.2.2.1.below hb, hHeld.2.2.2.1.below hb, ⟨below_step hHeld.2.2.2.2.out hb⟩⟩) (fun hHeld => ?_)
      clear hK K
      (try simp only [Act.put, List.setIfInBounds_toArray, List.set_cons_zero, List.set_cons_succ])
      clear hb
      refine zT 3 70 hHeld ?_
      refine zT 4 71 hHeld ?_
      refine zT 5 72 hHeld ?_
      refine zT 7 74 hHeld ?_
      refine zReady (rs := [6]) (by kernel_rfl) (by simp) ?_
      refine zOne (by decide) rfl (fun K hK => ?_) zNil
      go_simp
      refine (mailOk_calls _ _ m (rdRegs_mov hHeld.2.2.2.2.out Hm.out) HTm.out).mono ?_; rintro e wk6 ⟨rfl, hb⟩; rw [HOK.out]
      refine hK.out _ _ (by exact ⟨hHeld.1.below hb, hHeld.2.1.below hb, hHeld.2.2.1.below hb, hHeld.2.2.2.1.below hb, ⟨below_step hHeld.2.2.2.2.out hb⟩⟩) (fun hHeld => ?_)
      clear hK K
      (try simp only [Act.put, List.setIfInBounds_toArray, List.set_cons_zero, List.set_cons_succ])
      clear hb
      refine zT 8 75 hHeld ?_
      refine zT 9 76 hHeld ?_
      refine zT 10 77 hHeld ?_
      refine zT 11 78 hHeld ?_
      refine zT 12 79 hHeld ?_
      refine zT 13 80 hHeld ?_
      refine zU 14 81 hHeld ?_
      refine zU 15 82 hHeld ?_
      refine zU 16 83 hHeld ?_
      refine zU 17 84 hHeld ?_
      refine zU 18 85 hHeld ?_
      refine zU 19 86 hHeld ?_
      refine zU 20 87 hHeld ?_
      refine zU 21 88 hHeld ?_
      refine zU 22 89 hHeld ?_
      refine zU 23 90 hHeld ?_
      refine zU 24 91 hHeld ?_
      refine zU 25 92 hHeld ?_
      refine zU 26 93 hHeld ?_
      refine zT 27 94 hHeld ?_
      refine zT 28 95 hHeld ?_
      refine zT 29 96 hHeld ?_
      refine zT 30 97 hHeld ?_
      refine zT 31 98 hHeld ?_
      refine zT 32 99 hHeld ?_
      refine zT 33 100 hHeld ?_
      refine zT 34 101 hHeld ?_
      refine zT 35 102 hHeld ?_
      refine zT 36 103 hHeld ?_
      refine zT 37 104 hHeld ?_
      refine zT 38 105 hHeld ?_
      refine zT 39 106 hHeld ?_
      refine zT 40 107 hHeld ?_
      refine zT 41 108 hHeld ?_
      refine zT 42 109 hHeld ?_
      refine zT 43 110 hHeld ?_
      refine zT 44 111 hHeld ?_
      refine zT 45 112 hHeld ?_
      refine zT 46 113 hHeld ?_
      refine zReady (rs := [47]) (by kernel_rfl) (by simp) ?_
      refine zOne (by decide) rfl (fun K hK => ?_) zNil
      go_simp
      refine (begins_calls _ ag (u.extract p u.size) HAG2.out.1 HAG2.out.2).mono ?_; rintro e wk47 ⟨rfl, hb⟩
      refine hK.out _ _ (by exact ⟨hHeld.1.below hb, hHeld.2.1.below hb, hHeld.2.2.1.below hb, hHeld.2.2.2.1.below hb, ⟨below_step hHeld.2.2.2.2.out hb⟩⟩) (fun hHeld => ?_)
      clear hK K
      (try simp only [Act.put, List.setIfInBounds_toArray, List.set_cons_zero, List.set_cons_succ])
      clear hb
      refine zT 48 115 hHeld ?_
      refine zT 49 116 hHeld ?_
      refine zT 50 117 hHeld ?_
      refine zT 51 118 hHeld ?_
      refine zT 52 119 hHeld ?_
      refine zT 54 121 hHeld ?_
      refine zT 55 122 hHeld ?_
      refine zReady (rs := [53]) (by kernel_rfl) (by simp) ?_
      refine zOne (by decide) rfl (fun K hK => ?_) zNil
      go_simp
      refine (sameMail_calls _ a b _ _ (rdRegs_mov hHeld.2.2.2.2.out Ha.out) (rdRegs_mov hHeld.2.2.2.2.out Hb.out)).mono ?_; rintro e wk53 ⟨r53, rfl, hr53, hb⟩
      refine hK.out _ _ (by exact ⟨hHeld.1.below hb, hHeld.2.1.below hb, hHeld.2.2.1.below hb, hHeld.2.2.2.1.below hb, ⟨below_step hHeld.2.2.2.2.out hb⟩⟩) (fun hHeld => ?_)
      clear hK K
      (try simp only [Act.put, List.setIfInBounds_toArray, List.set_cons_zero, List.set_cons_succ])
      have R53 := Aside.mk hr53; clear hb hr53
      refine zReady (rs := [56]) (by kernel_rfl) (by simp) ?_
      refine zOne (by decide) rfl (fun K hK => ?_) zNil
      go_simp
      refine (specSameMail_calls _ a b _ _ (rdRegs_mov hHeld.2.2.2.2.out Ha.out) (rdRegs_mov hHeld.2.2.2.2.out Hb.out)).mono ?_; rintro e wk56 ⟨r56, rfl, hr56, hb⟩; have h56 : r56 = r53 := Bool.eq_iff_iff.2 (hr56.trans R53.out.symm); subst h56
      refine hK.out _ _ (by exact ⟨hHeld.1.below hb, hHeld.2.1.below hb, hHeld.2.2.1.below hb, hHeld.2.2.2.1.below hb, ⟨below_step hHeld.2.2.2.2.out hb⟩⟩) (fun hHeld => ?_)
      clear hK K
      (try simp only [Act.put, List.setIfInBounds_toArray, List.set_cons_zero, List.set_cons_succ])
      clear hb hr56 R53
      refine zT 57 124 hHeld ?_
      refine zT 58 125 hHeld ?_
      refine zT 59 126 hHeld ?_
      refine zT 60 127 hHeld ?_
      refine zT 61 128 hHeld ?_
      refine zT 63 130 hHeld ?_
      refine zT 64 131 hHeld ?_
      refine zReady (rs := [62]) (by kernel_rfl) (by simp) ?_
      refine zOne (by decide) rfl (fun K hK => ?_) zNil
      go_simp
      refine (joinMail_callsJ _ _ _ a b j HJ.out (rdRegs_mov hHeld.2.2.2.2.out Ha.out) (rdRegs_mov hHeld.2.2.2.2.out Hb.out) HLa.out).mono ?_; rintro e wk62 ⟨fv62, D62, rfl, ho62, _, hb⟩; obtain ⟨A62, c62, rfl⟩ := cell_own ow_reg ho62
      refine hK.out _ _ (by exact ⟨hHeld.1.below hb, hHeld.2.1.below hb, hHeld.2.2.1.below hb, hHeld.2.2.2.1.below hb, ⟨below_step hHeld.2.2.2.2.out hb⟩⟩) (fun hHeld => ?_)
      clear hK K
      (try simp only [Act.put, List.setIfInBounds_toArray, List.set_cons_zero, List.set_cons_succ])
      have R62 := Aside.mk (owRow_rd ow_reg ho62); clear ho62 hb
      refine zReady (rs := [65]) (by kernel_rfl) (by simp) ?_
      refine zOne (by decide) rfl (fun K hK => ?_) zNil
      go_simp
      refine (specJoinMail_callsJ _ _ _ a b j HJ.out (rdRegs_mov hHeld.2.2.2.2.out Ha.out) (rdRegs_mov hHeld.2.2.2.2.out Hb.out) HLa.out).mono ?_; rintro e wk65 ⟨fv65, D65, rfl, ho65, _, hb⟩; obtain ⟨A65, c65, rfl⟩ := cell_own ow_reg ho65
      refine hK.out _ _ (by exact ⟨hHeld.1.below hb, hHeld.2.1.below hb, hHeld.2.2.1.below hb, hHeld.2.2.2.1.below hb, ⟨below_step hHeld.2.2.2.2.out hb⟩⟩) (fun hHeld => ?_)
      clear hK K
      (try simp only [Act.put, List.setIfInBounds_toArray, List.set_cons_zero, List.set_cons_succ])
      have R65 := Aside.mk (owRow_rd ow_reg ho65); replace R62 := Aside.mk (rdRegs_mov hb R62.out); clear ho65 hb
      refine zReady (rs := [66]) (by kernel_rfl) (by simp) ?_
      refine zOne (by decide) rfl (fun K hK => ?_) zNil
      go_simp
      refine (specSameMail_calls _ j j _ _ R62.out R65.out).mono ?_; rintro e wk66 ⟨r66, rfl, hr66, hb⟩; replace hr66 := hr66.2 rfl; subst hr66
      refine hK.out _ _ (by exact ⟨hHeld.1.below hb, hHeld.2.1.below hb, hHeld.2.2.1.below hb, hHeld.2.2.2.1.below hb, ⟨below_step hHeld.2.2.2.2.out hb⟩⟩) (fun hHeld => ?_)
      clear hK K
      (try simp only [Act.put, List.setIfInBounds_toArray, List.set_cons_zero, List.set_cons_succ])
      clear R62 R65 hb
      refine zT 67 134 hHeld ?_
      refine zT 68 135 hHeld ?_
      refine zT 69 136 hHeld ?_
      refine zT 70 137 hHeld ?_
      refine zReady (rs := [71]) (by kernel_rfl) (by simp) ?_
      refine zOne (by decide) rfl (fun K hK => ?_) zNil
      go_simp
      refine (sameMail_calls _ m m _ _ (rdRegs_mov hHeld.2.2.2.2.out Hm.out) (rdRegs_mov hHeld.2.2.2.2.out Hm.out)).mono ?_; rintro e wk71 ⟨r71, rfl, hr71, hb⟩; replace hr71 := hr71.2 rfl; subst hr71
      refine hK.out _ _ (by exact ⟨hHeld.1.below hb, hHeld.2.1.below hb, hHeld.2.2.1.below hb, hHeld.2.2.2.1.below hb, ⟨below_step hHeld.2.2.2.2.out hb⟩⟩) (fun hHeld => ?_)
      clear hK K
      (try simp only [Act.put, List.setIfInBounds_toArray, List.set_cons_zero, List.set_cons_succ])
      clear hb
      refine zT 72 139 hHeld ?_
      refine zT 73 2 hHeld ?_
      refine zDone (by kernel_rfl) ?_ _
      have HB2 := hHeld.2.2.2.2
      clear hHeld
      go_wp2
      go_ret
      exact ⟨rfl, below_step HB.out HB2.out⟩
  · cases may
    · skip
      have hq := HQ.out rfl
      injection hq with h1 h2
      injection h2 with h2 h3
      subst h1 h2 h3
      clear HQ
      clear HAG
      go_wp2
      clear l3 q3 f3 l6 q6 f6
      refine zBegin (S := (fun w' => Loc w' w2.heap.size #[.int .i64 m.g, .int .i64 m.u, .slice Am m.fl.length cm, .string m.tx] 58 ∧ Loc w' w4.heap.size #[.int .i64 m.g, .int .i64 m.u, .slice Ax m.fl.length cx, .string m.tx] 58 ∧ Loc w' w9.heap.size #[.int .i64 a.g, .int .i64 a.u, .slice Aa a.fl.length ca, .string a.tx] 58 ∧ Loc w' (w9.heap.size + 1) #[.int .i64 b.g, .int .i64 b.u, .slice Ab b.fl.length cb, .string b.tx] 58 ∧ Aside (Below w9.heap.size w9 w'))) (z := 74) (by kernel_rfl) (by exact ⟨((L3.out.alloc _).alloc _).drew', ((L6.out.alloc _).alloc _).drew', ((Loc.new w9 _ _).alloc _).drew', (Loc.new1 w9 _ _ _).drew', ⟨below_drew (below_alloc (below_alloc (Below.refl _ w9) _) _)⟩⟩) (fun hHeld => ?_)
      refine zT 0 67 hHeld ?_
      refine zT 1 68 hHeld ?_
      refine zReady (rs := [2]) (by kernel_rfl) (by simp) ?_
      refine zOne (by decide) rfl (fun K hK => ?_) zNil
      go_simp
      refine (specMailOk_calls _ _ m (rdRegs_mov hHeld.2.2.2.2.out Hm.out) HTm.out).mono ?_; rintro e wk2 ⟨rfl, hb⟩; rw [HOK.out]
      refine hK.out _ _ (by exact ⟨hHeld.1.below hb, hHeld.2.1.below hb, hHeld.2.2.1.below hb, hHeld.2.2.2.1.below hb, ⟨below_step hHeld.2.2.2.2.out hb⟩⟩) (fun hHeld => ?_)
      clear hK K
      (try simp only [Act.put, List.setIfInBounds_toArray, List.set_cons_zero, List.set_cons_succ])
      clear hb
      refine zT 3 70 hHeld ?_
      refine zT 4 71 hHeld ?_
      refine zT 5 72 hHeld ?_
      refine zT 7 74 hHeld ?_
      refine zReady (rs := [6]) (by kernel_rfl) (by simp) ?_
      refine zOne (by decide) rfl (fun K hK => ?_) zNil
      go_simp
      refine (mailOk_calls _ _ m (rdRegs_mov hHeld.2.2.2.2.out Hm.out) HTm.out).mono ?_; rintro e wk6 ⟨rfl, hb⟩; rw [HOK.out]
      refine hK.out _ _ (by exact ⟨hHeld.1.below hb, hHeld.2.1.below hb, hHeld.2.2.1.below hb, hHeld.2.2.2.1.below hb, ⟨below_step hHeld.2.2.2.2.out hb⟩⟩) (fun hHeld => ?_)
      clear hK K
      (try simp only [Act.put, List.setIfInBounds_toArray, List.set_cons_zero, List.set_cons_succ])
      clear hb
      refine zT 8 75 hHeld ?_
      refine zT 9 76 hHeld ?_
      refine zT 10 77 hHeld ?_
      refine zT 11 78 hHeld ?_
      refine zT 12 79 hHeld ?_
      refine zT 13 80 hHeld ?_
      refine zT 14 81 hHeld ?_
      refine zT 15 82 hHeld ?_
      refine zT 16 83 hHeld ?_
      refine zT 17 84 hHeld ?_
      refine zReady (rs := [18]) (by kernel_rfl) (by simp) ?_
      refine zOne (by decide) rfl (fun K hK => ?_) zNil
      go_simp
      refine (specSameMail_calls _ m m _ _ (rdRegs_mov hHeld.2.2.2.2.out Hx.out) (rdRegs_mov hHeld.2.2.2.2.out Hm.out)).mono ?_; rintro e wk18 ⟨r18, rfl, hr18, hb⟩; replace hr18 := hr18.2 rfl; subst hr18
      refine hK.out _ _ (by exact ⟨hHeld.1.below hb, hHeld.2.1.below hb, hHeld.2.2.1.below hb, hHeld.2.2.2.1.below hb, ⟨below_step hHeld.2.2.2.2.out hb⟩⟩) (fun hHeld => ?_)
      clear hK K
      (try simp only [Act.put, List.setIfInBounds_toArray, List.set_cons_zero, List.set_cons_succ])
      clear hb
      refine zT 19 86 hHeld ?_
      refine zT 20 87 hHeld ?_
      refine zT 21 88 hHeld ?_
      refine zT 22 89 hHeld ?_
      refine zT 23 90 hHeld ?_
      refine zT 24 91 hHeld ?_
      refine zT 25 92 hHeld ?_
      refine zT 26 93 hHeld ?_
      refine zT 27 94 hHeld ?_
      refine zT 28 95 hHeld ?_
      refine zT 29 96 hHeld ?_
      refine zT 30 97 hHeld ?_
      refine zT 31 98 hHeld ?_
      refine zT 32 99 hHeld ?_
      refine zT 33 100 hHeld ?_
      refine zT 34 101 hHeld ?_
      refine zT 35 102 hHeld ?_
      refine zT 36 103 hHeld ?_
      refine zT 37 104 hHeld ?_
      refine zT 38 105 hHeld ?_
      refine zT 39 106 hHeld ?_
      refine zT 40 107 hHeld ?_
      refine zT 41 108 hHeld ?_
      refine zT 42 109 hHeld ?_
      refine zU 43 110 hHeld ?_
      refine zU 44 111 hHeld ?_
      refine zU 45 112 hHeld ?_
      refine zU 46 113 hHeld ?_
      refine zU 47 114 hHeld ?_
      refine zT 48 115 hHeld ?_
      refine zT 49 116 hHeld ?_
      refine zT 50 117 hHeld ?_
      refine zT 51 118 hHeld ?_
      refine zT 52 119 hHeld ?_
      refine zT 54 121 hHeld ?_
      refine zT 55 122 hHeld ?_
      refine zReady (rs := [53]) (by kernel_rfl) (by simp) ?_
      refine zOne (by decide) rfl (fun K hK => ?_) zNil
      go_simp
      refine (sameMail_calls _ a b _ _ (rdRegs_mov hHeld.2.2.2.2.out Ha.out) (rdRegs_mov hHeld.2.2.2.2.out Hb.out)).mono ?_; rintro e wk53 ⟨r53, rfl, hr53, hb⟩
      refine hK.out _ _ (by exact ⟨hHeld.1.below hb, hHeld.2.1.below hb, hHeld.2.2.1.below hb, hHeld.2.2.2.1.below hb, ⟨below_step hHeld.2.2.2.2.out hb⟩⟩) (fun hHeld => ?_)
      clear hK K
      (try simp only [Act.put, List.setIfInBounds_toArray, List.set_cons_zero, List.set_cons_succ])
      have R53 := Aside.mk hr53; clear hb hr53
      refine zReady (rs := [56]) (by kernel_rfl) (by simp) ?_
      refine zOne (by decide) rfl (fun K hK => ?_) zNil
      go_simp
      refine (specSameMail_calls _ a b _ _ (rdRegs_mov hHeld.2.2.2.2.out Ha.out) (rdRegs_mov hHeld.2.2.2.2.out Hb.out)).mono ?_; rintro e wk56 ⟨r56, rfl, hr56, hb⟩; have h56 : r56 = r53 := Bool.eq_iff_iff.2 (hr56.trans R53.out.symm); subst h56
      refine hK.out _ _ (by exact ⟨hHeld.1.below hb, hHeld.2.1.below hb, hHeld.2.2.1.below hb, hHeld.2.2.2.1.below hb, ⟨below_step hHeld.2.2.2.2.out hb⟩⟩) (fun hHeld => ?_)
      clear hK K
      (try simp only [Act.put, List.setIfInBounds_toArray, List.set_cons_zero, List.set_cons_succ])
      clear hb hr56 R53
      refine zT 57 124 hHeld ?_
      refine zT 58 125 hHeld ?_
      refine zT 59 126 hHeld ?_
      refine zT 60 127 hHeld ?_
      refine zT 61 128 hHeld ?_
      refine zT 63 130 hHeld ?_
      refine zT 64 131 hHeld ?_
      refine zReady (rs := [62]) (by kernel_rfl) (by simp) ?_
      refine zOne (by decide) rfl (fun K hK => ?_) zNil
      go_simp
      refine (joinMail_callsJ _ _ _ a b j HJ.out (rdRegs_mov hHeld.2.2.2.2.out Ha.out) (rdRegs_mov hHeld.2.2.2.2.out Hb.out) HLa.out).mono ?_; rintro e wk62 ⟨fv62, D62, rfl, ho62, _, hb⟩; obtain ⟨A62, c62, rfl⟩ := cell_own ow_reg ho62
      refine hK.out _ _ (by exact ⟨hHeld.1.below hb, hHeld.2.1.below hb, hHeld.2.2.1.below hb, hHeld.2.2.2.1.below hb, ⟨below_step hHeld.2.2.2.2.out hb⟩⟩) (fun hHeld => ?_)
      clear hK K
      (try simp only [Act.put, List.setIfInBounds_toArray, List.set_cons_zero, List.set_cons_succ])
      have R62 := Aside.mk (owRow_rd ow_reg ho62); clear ho62 hb
      refine zReady (rs := [65]) (by kernel_rfl) (by simp) ?_
      refine zOne (by decide) rfl (fun K hK => ?_) zNil
      go_simp
      refine (specJoinMail_callsJ _ _ _ a b j HJ.out (rdRegs_mov hHeld.2.2.2.2.out Ha.out) (rdRegs_mov hHeld.2.2.2.2.out Hb.out) HLa.out).mono ?_; rintro e wk65 ⟨fv65, D65, rfl, ho65, _, hb⟩; obtain ⟨A65, c65, rfl⟩ := cell_own ow_reg ho65
      refine hK.out _ _ (by exact ⟨hHeld.1.below hb, hHeld.2.1.below hb, hHeld.2.2.1.below hb, hHeld.2.2.2.1.below hb, ⟨below_step hHeld.2.2.2.2.out hb⟩⟩) (fun hHeld => ?_)
      clear hK K
      (try simp only [Act.put, List.setIfInBounds_toArray, List.set_cons_zero, List.set_cons_succ])
      have R65 := Aside.mk (owRow_rd ow_reg ho65); replace R62 := Aside.mk (rdRegs_mov hb R62.out); clear ho65 hb
      refine zReady (rs := [66]) (by kernel_rfl) (by simp) ?_
      refine zOne (by decide) rfl (fun K hK => ?_) zNil
      go_simp
      refine (specSameMail_calls _ j j _ _ R62.out R65.out).mono ?_; rintro e wk66 ⟨r66, rfl, hr66, hb⟩; replace hr66 := hr66.2 rfl; subst hr66
      refine hK.out _ _ (by exact ⟨hHeld.1.below hb, hHeld.2.1.below hb, hHeld.2.2.1.below hb, hHeld.2.2.2.1.below hb, ⟨below_step hHeld.2.2.2.2.out hb⟩⟩) (fun hHeld => ?_)
      clear hK K
      (try simp only [Act.put, List.setIfInBounds_toArray, List.set_cons_zero, List.set_cons_succ])
      clear R62 R65 hb
      refine zT 67 134 hHeld ?_
      refine zT 68 135 hHeld ?_
      refine zT 69 136 hHeld ?_
      refine zT 70 137 hHeld ?_
      refine zReady (rs := [71]) (by kernel_rfl) (by simp) ?_
      refine zOne (by decide) rfl (fun K hK => ?_) zNil
      go_simp
      refine (sameMail_calls _ m m _ _ (rdRegs_mov hHeld.2.2.2.2.out Hm.out) (rdRegs_mov hHeld.2.2.2.2.out Hm.out)).mono ?_; rintro e wk71 ⟨r71, rfl, hr71, hb⟩; replace hr71 := hr71.2 rfl; subst hr71
      refine hK.out _ _ (by exact ⟨hHeld.1.below hb, hHeld.2.1.below hb, hHeld.2.2.1.below hb, hHeld.2.2.2.1.below hb, ⟨below_step hHeld.2.2.2.2.out hb⟩⟩) (fun hHeld => ?_)
      clear hK K
      (try simp only [Act.put, List.setIfInBounds_toArray, List.set_cons_zero, List.set_cons_succ])
      clear hb
      refine zT 72 139 hHeld ?_
      refine zT 73 2 hHeld ?_
      refine zDone (by kernel_rfl) ?_ _
      have HB2 := hHeld.2.2.2.2
      clear hHeld
      go_wp2
      go_ret
      exact ⟨rfl, below_step HB.out HB2.out⟩
    · skip
      have hq := HQ.out rfl
      injection hq with h1 h2
      injection h2 with h2 h3
      subst h1 h2 h3
      clear HQ
      have HAG2 := Aside.mk (HAG.out rfl)
      clear HAG
      go_wp2
      clear l3 q3 f3 l6 q6 f6
      refine zBegin (S := (fun w' => Loc w' w2.heap.size #[.int .i64 m.g, .int .i64 m.u, .slice Am m.fl.length cm, .string m.tx] 58 ∧ Loc w' w4.heap.size #[.int .i64 m.g, .int .i64 m.u, .slice Ax m.fl.length cx, .string m.tx] 58 ∧ Loc w' w9.heap.size #[.int .i64 a.g, .int .i64 a.u, .slice Aa a.fl.length ca, .string a.tx] 58 ∧ Loc w' (w9.heap.size + 1) #[.int .i64 b.g, .int .i64 b.u, .slice Ab b.fl.length cb, .string b.tx] 58 ∧ Aside (Below w9.heap.size w9 w'))) (z := 74) (by kernel_rfl) (by exact ⟨((L3.out.alloc _).alloc _).drew', ((L6.out.alloc _).alloc _).drew', ((Loc.new w9 _ _).alloc _).drew', (Loc.new1 w9 _ _ _).drew', ⟨below_drew (below_alloc (below_alloc (Below.refl _ w9) _) _)⟩⟩) (fun hHeld => ?_)
      refine zT 0 67 hHeld ?_
      refine zT 1 68 hHeld ?_
      refine zReady (rs := [2]) (by kernel_rfl) (by simp) ?_
      refine zOne (by decide) rfl (fun K hK => ?_) zNil
      go_simp
      refine (specMailOk_calls _ _ m (rdRegs_mov hHeld.2.2.2.2.out Hm.out) HTm.out).mono ?_; rintro e wk2 ⟨rfl, hb⟩; rw [HOK.out]
      refine hK.out _ _ (by exact ⟨hHeld.1.below hb, hHeld.2.1.below hb, hHeld.2.2.1.below hb, hHeld.2.2.2.1.below hb, ⟨below_step hHeld.2.2.2.2.out hb⟩⟩) (fun hHeld => ?_)
      clear hK K
      (try simp only [Act.put, List.setIfInBounds_toArray, List.set_cons_zero, List.set_cons_succ])
      clear hb
      refine zT 3 70 hHeld ?_
      refine zT 4 71 hHeld ?_
      refine zT 5 72 hHeld ?_
      refine zT 7 74 hHeld ?_
      refine zReady (rs := [6]) (by kernel_rfl) (by simp) ?_
      refine zOne (by decide) rfl (fun K hK => ?_) zNil
      go_simp
      refine (mailOk_calls _ _ m (rdRegs_mov hHeld.2.2.2.2.out Hm.out) HTm.out).mono ?_; rintro e wk6 ⟨rfl, hb⟩; rw [HOK.out]
      refine hK.out _ _ (by exact ⟨hHeld.1.below hb, hHeld.2.1.below hb, hHeld.2.2.1.below hb, hHeld.2.2.2.1.below hb, ⟨below_step hHeld.2.2.2.2.out hb⟩⟩) (fun hHeld => ?_)
      clear hK K
      (try simp only [Act.put, List.setIfInBounds_toArray, List.set_cons_zero, List.set_cons_succ])
      clear hb
      refine zT 8 75 hHeld ?_
      refine zT 9 76 hHeld ?_
      refine zT 10 77 hHeld ?_
      refine zT 11 78 hHeld ?_
      refine zT 12 79 hHeld ?_
      refine zT 13 80 hHeld ?_
      refine zT 14 81 hHeld ?_
      refine zT 15 82 hHeld ?_
      refine zT 16 83 hHeld ?_
      refine zT 17 84 hHeld ?_
      refine zReady (rs := [18]) (by kernel_rfl) (by simp) ?_
      refine zOne (by decide) rfl (fun K hK => ?_) zNil
      go_simp
      refine (specSameMail_calls _ m m _ _ (rdRegs_mov hHeld.2.2.2.2.out Hx.out) (rdRegs_mov hHeld.2.2.2.2.out Hm.out)).mono ?_; rintro e wk18 ⟨r18, rfl, hr18, hb⟩; replace hr18 := hr18.2 rfl; subst hr18
      refine hK.out _ _ (by exact ⟨hHeld.1.below hb, hHeld.2.1.below hb, hHeld.2.2.1.below hb, hHeld.2.2.2.1.below hb, ⟨below_step hHeld.2.2.2.2.out hb⟩⟩) (fun hHeld => ?_)
      clear hK K
      (try simp only [Act.put, List.setIfInBounds_toArray, List.set_cons_zero, List.set_cons_succ])
      clear hb
      refine zT 19 86 hHeld ?_
      refine zT 20 87 hHeld ?_
      refine zT 21 88 hHeld ?_
      refine zT 22 89 hHeld ?_
      refine zT 23 90 hHeld ?_
      refine zT 24 91 hHeld ?_
      refine zT 25 92 hHeld ?_
      refine zT 26 93 hHeld ?_
      refine zT 27 94 hHeld ?_
      refine zT 28 95 hHeld ?_
      refine zT 29 96 hHeld ?_
      refine zT 30 97 hHeld ?_
      refine zT 31 98 hHeld ?_
      refine zT 32 99 hHeld ?_
      refine zT 33 100 hHeld ?_
      refine zT 34 101 hHeld ?_
      refine zT 35 102 hHeld ?_
      refine zT 36 103 hHeld ?_
      refine zT 37 104 hHeld ?_
      refine zT 38 105 hHeld ?_
      refine zT 39 106 hHeld ?_
      refine zT 40 107 hHeld ?_
      refine zT 41 108 hHeld ?_
      refine zT 42 109 hHeld ?_
      refine zT 43 110 hHeld ?_
      refine zT 44 111 hHeld ?_
      refine zT 45 112 hHeld ?_
      refine zT 46 113 hHeld ?_
      refine zReady (rs := [47]) (by kernel_rfl) (by simp) ?_
      refine zOne (by decide) rfl (fun K hK => ?_) zNil
      go_simp
      refine (begins_calls _ ag (u.extract p u.size) HAG2.out.1 HAG2.out.2).mono ?_; rintro e wk47 ⟨rfl, hb⟩
      refine hK.out _ _ (by exact ⟨hHeld.1.below hb, hHeld.2.1.below hb, hHeld.2.2.1.below hb, hHeld.2.2.2.1.below hb, ⟨below_step hHeld.2.2.2.2.out hb⟩⟩) (fun hHeld => ?_)
      clear hK K
      (try simp only [Act.put, List.setIfInBounds_toArray, List.set_cons_zero, List.set_cons_succ])
      clear hb
      refine zT 48 115 hHeld ?_
      refine zT 49 116 hHeld ?_
      refine zT 50 117 hHeld ?_
      refine zT 51 118 hHeld ?_
      refine zT 52 119 hHeld ?_
      refine zT 54 121 hHeld ?_
      refine zT 55 122 hHeld ?_
      refine zReady (rs := [53]) (by kernel_rfl) (by simp) ?_
      refine zOne (by decide) rfl (fun K hK => ?_) zNil
      go_simp
      refine (sameMail_calls _ a b _ _ (rdRegs_mov hHeld.2.2.2.2.out Ha.out) (rdRegs_mov hHeld.2.2.2.2.out Hb.out)).mono ?_; rintro e wk53 ⟨r53, rfl, hr53, hb⟩
      refine hK.out _ _ (by exact ⟨hHeld.1.below hb, hHeld.2.1.below hb, hHeld.2.2.1.below hb, hHeld.2.2.2.1.below hb, ⟨below_step hHeld.2.2.2.2.out hb⟩⟩) (fun hHeld => ?_)
      clear hK K
      (try simp only [Act.put, List.setIfInBounds_toArray, List.set_cons_zero, List.set_cons_succ])
      have R53 := Aside.mk hr53; clear hb hr53
      refine zReady (rs := [56]) (by kernel_rfl) (by simp) ?_
      refine zOne (by decide) rfl (fun K hK => ?_) zNil
      go_simp
      refine (specSameMail_calls _ a b _ _ (rdRegs_mov hHeld.2.2.2.2.out Ha.out) (rdRegs_mov hHeld.2.2.2.2.out Hb.out)).mono ?_; rintro e wk56 ⟨r56, rfl, hr56, hb⟩; have h56 : r56 = r53 := Bool.eq_iff_iff.2 (hr56.trans R53.out.symm); subst h56
      refine hK.out _ _ (by exact ⟨hHeld.1.below hb, hHeld.2.1.below hb, hHeld.2.2.1.below hb, hHeld.2.2.2.1.below hb, ⟨below_step hHeld.2.2.2.2.out hb⟩⟩) (fun hHeld => ?_)
      clear hK K
      (try simp only [Act.put, List.setIfInBounds_toArray, List.set_cons_zero, List.set_cons_succ])
      clear hb hr56 R53
      refine zT 57 124 hHeld ?_
      refine zT 58 125 hHeld ?_
      refine zT 59 126 hHeld ?_
      refine zT 60 127 hHeld ?_
      refine zT 61 128 hHeld ?_
      refine zT 63 130 hHeld ?_
      refine zT 64 131 hHeld ?_
      refine zReady (rs := [62]) (by kernel_rfl) (by simp) ?_
      refine zOne (by decide) rfl (fun K hK => ?_) zNil
      go_simp
      refine (joinMail_callsJ _ _ _ a b j HJ.out (rdRegs_mov hHeld.2.2.2.2.out Ha.out) (rdRegs_mov hHeld.2.2.2.2.out Hb.out) HLa.out).mono ?_; rintro e wk62 ⟨fv62, D62, rfl, ho62, _, hb⟩; obtain ⟨A62, c62, rfl⟩ := cell_own ow_reg ho62
      refine hK.out _ _ (by exact ⟨hHeld.1.below hb, hHeld.2.1.below hb, hHeld.2.2.1.below hb, hHeld.2.2.2.1.below hb, ⟨below_step hHeld.2.2.2.2.out hb⟩⟩) (fun hHeld => ?_)
      clear hK K
      (try simp only [Act.put, List.setIfInBounds_toArray, List.set_cons_zero, List.set_cons_succ])
      have R62 := Aside.mk (owRow_rd ow_reg ho62); clear ho62 hb
      refine zReady (rs := [65]) (by kernel_rfl) (by simp) ?_
      refine zOne (by decide) rfl (fun K hK => ?_) zNil
      go_simp
      refine (specJoinMail_callsJ _ _ _ a b j HJ.out (rdRegs_mov hHeld.2.2.2.2.out Ha.out) (rdRegs_mov hHeld.2.2.2.2.out Hb.out) HLa.out).mono ?_; rintro e wk65 ⟨fv65, D65, rfl, ho65, _, hb⟩; obtain ⟨A65, c65, rfl⟩ := cell_own ow_reg ho65
      refine hK.out _ _ (by exact ⟨hHeld.1.below hb, hHeld.2.1.below hb, hHeld.2.2.1.below hb, hHeld.2.2.2.1.below hb, ⟨below_step hHeld.2.2.2.2.out hb⟩⟩) (fun hHeld => ?_)
      clear hK K
      (try simp only [Act.put, List.setIfInBounds_toArray, List.set_cons_zero, List.set_cons_succ])
      have R65 := Aside.mk (owRow_rd ow_reg ho65); replace R62 := Aside.mk (rdRegs_mov hb R62.out); clear ho65 hb
      refine zReady (rs := [66]) (by kernel_rfl) (by simp) ?_
      refine zOne (by decide) rfl (fun K hK => ?_) zNil
      go_simp
      refine (specSameMail_calls _ j j _ _ R62.out R65.out).mono ?_; rintro e wk66 ⟨r66, rfl, hr66, hb⟩; replace hr66 := hr66.2 rfl; subst hr66
      refine hK.out _ _ (by exact ⟨hHeld.1.below hb, hHeld.2.1.below hb, hHeld.2.2.1.below hb, hHeld.2.2.2.1.below hb, ⟨below_step hHeld.2.2.2.2.out hb⟩⟩) (fun hHeld => ?_)
      clear hK K
      (try simp only [Act.put, List.setIfInBounds_toArray, List.set_cons_zero, List.set_cons_succ])
      clear R62 R65 hb
      refine zT 67 134 hHeld ?_
      refine zT 68 135 hHeld ?_
      refine zT 69 136 hHeld ?_
      refine zT 70 137 hHeld ?_
      refine zReady (rs := [71]) (by kernel_rfl) (by simp) ?_
      refine zOne (by decide) rfl (fun K hK => ?_) zNil
      go_simp
      refine (sameMail_calls _ m m _ _ (rdRegs_mov hHeld.2.2.2.2.out Hm.out) (rdRegs_mov hHeld.2.2.2.2.out Hm.out)).mono ?_; rintro e wk71 ⟨r71, rfl, hr71, hb⟩; replace hr71 := hr71.2 rfl; subst hr71
      refine hK.out _ _ (by exact ⟨hHeld.1.below hb, hHeld.2.1.below hb, hHeld.2.2.1.below hb, hHeld.2.2.2.1.below hb, ⟨below_step hHeld.2.2.2.2.out hb⟩⟩) (fun hHeld => ?_)
      clear hK K
      (try simp only [Act.put, List.setIfInBounds_toArray, List.set_cons_zero, List.set_cons_succ])
      clear hb
      refine zT 72 139 hHeld ?_
      refine zT 73 2 hHeld ?_
      refine zDone (by kernel_rfl) ?_ _
      have HB2 := hHeld.2.2.2.2
      clear hHeld
      go_wp2
      go_ret
      exact ⟨rfl, below_step HB.out HB2.out⟩
end Go.Proofs.Ytjfjpabfkembcaa.H
