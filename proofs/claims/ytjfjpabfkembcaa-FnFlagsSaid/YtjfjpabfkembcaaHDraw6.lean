/- What is drawn for SetFlags and FlagsOf: the walks. -/
import Derived.Test.YtjfjpabfkembcaaHDraw5
namespace Go.Proofs.Ytjfjpabfkembcaa.H
open Go.RowKit
set_option linter.unusedVariables false
set_option linter.unusedSimpArgs false
set_option maxHeartbeats 2000000 in
set_option maxRecDepth 100000 in
theorem drawFlagsOf_calls (w : World) (A : Option Addr) (c : Nat) (code : List Int) (h : rdBytes w (.slice A code.length c) code) :
    Calls Try.prog 45 #[.slice A code.length c] w fun e w' => ∃ v l, e = .returned v ∧ rdRegs w' v l ∧ l.length ≤ 4 ∧ Below w.heap.size w w' := by
  have HR := Aside.mk h
  clear h
  go_enter Try.func45, Try.ntmps45
  go_wp2_with (fail)
  refine (l01New_calls _ A c code HR.out).mono ?_
  rintro e w1 ⟨C, rfl, hc, hb⟩
  have HB := Aside.mk hb
  have HC := Aside.mk hc
  clear hb hc
  go_wp2_with (fail)
  refine (l04Any_calls w _ C HC.out).mono ?_
  rintro e w2 ⟨v, D, l, rfl, hr, hn, hl, hw⟩
  have HR2 := Aside.mk hr.now
  have HL := Aside.mk hl
  have HW := Aside.mk hw
  clear hr hn hl hw
  go_wp2
  go_ret
  exact ⟨v, l, rfl, HR2.out, HL.out, HW.out.low HB.out HC.out.ge⟩
set_option maxHeartbeats 2000000 in
set_option maxRecDepth 100000 in
theorem drawSetFlags_calls (w : World) (A : Option Addr) (c : Nat) (code : List Int) (h : rdBytes w (.slice A code.length c) code) :
    Calls Try.prog 44 #[.slice A code.length c] w fun e w' => ∃ v l n t b, e = .returned (.tuple #[v, .int .i64 n, .agg #[.int .i64 t, .int .i64 b]]) ∧ rdRegs w' v l ∧ l.length ≤ 4 ∧ Below w.heap.size w w' := by
  have HR := Aside.mk (rdBytes_mov (below_alloc (Below.refl _ w) (.cells #[.int .i64 0, .int .i64 0] 29)) h)
  clear h
  go_enter Try.func44, Try.ntmps44
  go_wp2_with (fail)
  have L0 := Aside.mk (Loc.new w #[.int .i64 0, .int .i64 0] 29)
  obtain ⟨wa, hwa⟩ : ∃ wa, wa = w.alloc (.cells #[.int .i64 0, .int .i64 0] 29) := ⟨_, rfl⟩
  have HA : Aside (Below w.heap.size w wa ∧ wa.heap.size = w.heap.size + 1) := ⟨by rw [hwa]; exact below_alloc (Below.refl _ w) _, by rw [hwa]; simp⟩
  rw [← hwa] at HR L0 ⊢
  clear hwa
  refine (l01New_calls _ A c code HR.out).mono ?_
  rintro e w1 ⟨C, rfl, hc, hb⟩
  have HL := Aside.mk hc.lt
  have HCg := Aside.mk hc.ge
  have HB := Aside.mk hb
  have HW := Aside.mk (Went.refl hc)
  replace L0 := Aside.mk (L0.out.below hb)
  have hne0 : w.heap.size ≠ C := by have := HA.out.2; have := HCg.out; omega
  have HN0 := Aside.mk hne0
  clear hb hc hne0
  go_wp2_with (fail)
  refine (l01Below_calls wa _ C _ HW.out.1).mono ?_
  rintro e w2 ⟨n, rfl, _, _, _, hw⟩
  replace L0 := Aside.mk (L0.out.went hw HN0.out)
  replace HW := Aside.mk (HW.out.trans hw)
  clear hw
  go_wp2_with (fail)
  refine (l03Any_calls wa _ C HW.out.1).mono ?_
  rintro e w3 ⟨t, b, rfl, hw⟩
  replace L0 := Aside.mk (L0.out.went hw HN0.out)
  replace HW := Aside.mk (HW.out.trans hw)
  have HQ1 : Aside (w.heap.size < w3.heap.size ∧ C < w3.heap.size) := ⟨L0.out.lt, HW.out.1.lt⟩
  have HW1 := Aside.mk (HW.out.alloc (.cells #[.int .i64 t, .int .i64 b] 29))
  have L01 := Aside.mk (L0.out.alloc (.cells #[.int .i64 t, .int .i64 b] 29))
  have L1 := Aside.mk (Loc.new w3 #[.int .i64 t, .int .i64 b] 29)
  clear hw
  go_wp2
  refine zBegin (S := (fun w' => Loc w' w.heap.size #[.int .i64 0, .int .i64 0] 29 ∧ Loc w' w3.heap.size #[.int .i64 t, .int .i64 b] 29 ∧ Aside (Went wa w1 w' C))) (z := 6) (by kernel_rfl) (by exact ⟨L01.out.drew', L1.out.drew', ⟨HW1.out.drew⟩⟩) (fun hHeld => ?_)
  refine zT 0 15 hHeld ?_
  refine zT 2 17 hHeld ?_
  refine zT 3 18 hHeld ?_
  refine zReady (rs := [1]) (by kernel_rfl) (by simp) ?_
  refine zOne (by decide) rfl (fun K hK => ?_) zNil
  go_simp
  refine (l04Any_calls wa _ C hHeld.2.2.out.1).mono ?_; rintro e w4 ⟨v, D, l, rfl, hr, hn, hl, hw⟩
  refine hK.out _ _ (by exact ⟨hHeld.1.went hw HN0.out, hHeld.2.1.went hw (by have := HQ1.out; omega), ⟨hHeld.2.2.out.trans hw⟩⟩) (fun hHeld => ?_)
  clear hK K
  (try simp only [Act.put, List.setIfInBounds_toArray, List.set_cons_zero, List.set_cons_succ])
  have HR2 := Aside.mk hr; have HN2 := Aside.mk hn; have HLL := Aside.mk hl; clear hw hr hn hl; have l0 := hHeld.1.cells; have f0 := hHeld.1.free; have q0 := hHeld.1.lt; have HW2 := hHeld.2.2
  refine zT 4 2 hHeld ?_
  refine zT 5 3 hHeld ?_
  refine zReady (rs := [6]) (by kernel_rfl) (by simp) ?_
  refine zLast rfl (fun K hK => ?_) zNil
  go_simp
  refine hK.out _ _ ?_
  clear hK K
  (try simp only [Act.put, List.setIfInBounds_toArray, List.set_cons_zero, List.set_cons_succ])
  refine zDone (by kernel_rfl) ?_ _
  go_wp2
  refine bodyPost_ret (v := .tuple #[v, .int .i64 (n - 1), .agg #[.int .i64 t, .int .i64 b]]) (by simp [results, go_sem, l0, q0]) rfl ⟨v, l, _, t, b, rfl, ?_, HLL.out, ?_⟩
  · have hoff : ∀ x ∈ D, x ≠ w.heap.size := fun x hx => by
      have h1 := (HN2.out.2 x hx).1; have h2 := HQ1.out.1; have h3 : w3.heap.size ≤ ((w3.alloc (.cells #[.int .i64 t, .int .i64 b] 29)).drew).heap.size := by show _ ≤ (w3.alloc _).heap.size; simp
      omega
    exact HR2.out _ (fun x hx => (Below.heap_setCell _ _ _ x (hoff x hx)).trans (Below.heap_setCell _ _ _ x (hoff x hx)))
  · refine below_set (below_set (below_step HA.out.1 (HW2.out.low HB.out HCg.out)) ?_ _) ?_ _ <;> exact Nat.le_refl _
end Go.Proofs.Ytjfjpabfkembcaa.H
