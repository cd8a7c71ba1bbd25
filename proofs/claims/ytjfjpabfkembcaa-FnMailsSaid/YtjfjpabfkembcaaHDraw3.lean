/- A drawn register of whatever kind: the walk. -/
import Derived.Test.YtjfjpabfkembcaaHDraw2
namespace Go.Proofs.Ytjfjpabfkembcaa.H
open Go.RowKit
set_option linter.unusedVariables false
set_option linter.unusedSimpArgs false
set_option maxHeartbeats 2000000 in
set_option maxRecDepth 100000 in
theorem l03Reg_calls (W w : World) (C : Nat) (hc : HasCur W w C) :
    Calls Try.prog 175 #[.pointer (some ⟨C, 0, none⟩)] w fun e w' => ∃ r : Reg, e = .returned (.agg #[.int .i64 r.v, .int .i64 r.t, .int .i64 r.b]) ∧ Went W w w' C := by
  have HL := Aside.mk hc.lt
  have HW := Aside.mk (Went.refl hc)
  clear hc
  go_enter Try.func175, Try.ntmps175
  go_wp2_with (fail)
  replace HW := Aside.mk (HW.out.alloc (.cells #[.int .i64 0, .int .i64 0, .int .i64 0] 136))
  have L0 := Aside.mk (Loc.new w #[.int .i64 0, .int .i64 0, .int .i64 0] 136)
  refine (l03Any_calls W _ C HW.out.1).mono ?_
  rintro e w1 ⟨t, b, rfl, hw⟩
  replace L0 := Aside.mk (L0.out.went hw (by have := HL.out; (try have := HQ1.out); (try have := HQ2.out); (try have := HQ3.out); omega)); replace HW := Aside.mk (HW.out.trans hw); clear hw; (try clear l0); (try clear q0); (try clear f0); have l0 := L0.out.cells; have q0 := L0.out.lt; have f0 := L0.out.free
  have HQ1 : Aside (w.heap.size < w1.heap.size) := ⟨q0⟩
  clear l0 q0 f0
  have HW1 := Aside.mk (HW.out.alloc (.cells #[.int .i64 t, .int .i64 b] 29))
  have L01 := Aside.mk (L0.out.alloc (.cells #[.int .i64 t, .int .i64 b] 29))
  have L1 := Aside.mk (Loc.new w1 #[.int .i64 t, .int .i64 b] 29)
  go_wp2
  refine zBegin (S := (fun w' => Loc w' w.heap.size #[.int .i64 0, .int .i64 0, .int .i64 0] 136 ∧ Loc w' w1.heap.size #[.int .i64 t, .int .i64 b] 29 ∧ Aside (Went W w w' C))) (z := 5) (by kernel_rfl) (by exact ⟨L01.out.drew', L1.out.drew', ⟨HW1.out.drew⟩⟩) (fun hHeld => ?_)
  refine zT 0 6 hHeld ?_
  refine zT 3 9 hHeld ?_
  refine zReady (rs := [1]) (by kernel_rfl) (by simp) ?_
  refine zOne (by decide) rfl (fun K hK => ?_) zNil
  go_simp
  refine hK.out _ _ (by exact ⟨hHeld.1.alloc _, hHeld.2.1.alloc _, ⟨hHeld.2.2.out.alloc _⟩⟩) (fun hHeld => ?_)
  clear hK K
  (try simp only [Act.put, List.setIfInBounds_toArray, List.set_cons_zero, List.set_cons_succ])
  refine zReady (rs := [2]) (by kernel_rfl) (by simp) ?_
  refine zOne (by decide) rfl (fun K hK => ?_) zNil
  go_simp
  refine (l01PickInt_calls W _ C _ _ [0, 1, 1, 7, -1, 1000000001] hHeld.2.2.out.1 (rdInts_lit (w1.alloc (.cells #[.int .i64 t, .int .i64 b] 29)).drew (w1.heap.size + 1) (by simp) [0, 1, 1, 7, -1, 1000000001] (by decide) 3) (fun ad e => by injection e with e; subst e; have := HL.out; have := HQ1.out; simp; omega) (by decide)).mono ?_; rintro e w3 ⟨x, rfl, _, hw⟩
  refine hK.out _ _ (by exact ⟨hHeld.1.went hw (by have := HL.out; omega), hHeld.2.1.went hw (by have := HL.out; have := HQ1.out; omega), ⟨hHeld.2.2.out.trans hw⟩⟩) (fun hHeld => ?_)
  clear hK K
  (try simp only [Act.put, List.setIfInBounds_toArray, List.set_cons_zero, List.set_cons_succ])
  clear hw; have l0 := hHeld.1.cells; have f0 := hHeld.1.free; have q0 := hHeld.1.lt; have HW2 := hHeld.2.2; have L02 := Aside.mk hHeld.1
  refine zT 4 10 hHeld ?_
  refine zReady (rs := [5]) (by kernel_rfl) (by simp) ?_
  refine zLast rfl (fun K hK => ?_) zNil
  go_simp
  refine hK.out _ _ ?_
  clear hK K
  (try simp only [Act.put, List.setIfInBounds_toArray, List.set_cons_zero, List.set_cons_succ])
  refine zDone (by kernel_rfl) ?_ _
  go_wp2
  refine bodyPost_ret (v := .agg #[.int .i64 x, .int .i64 t, .int .i64 b]) (by simp [results, go_sem, l0, q0]) rfl ⟨⟨x, t, b⟩, rfl, ?_⟩
  (repeat (first | (with_reducible exact HW2.out) | (with_reducible refine Went.set ?_ (by first | omega | (dsimp only; omega) | (simp; done) | (simp; omega) | (have h1_ := HQ1.out; dsimp only; omega) | (have h1_ := HQ1.out; have h2_ := HQ2.out; dsimp only; omega)) _) | (with_reducible refine Went.alloc ?_ _) | (with_reducible refine Went.drewN ?_ _) | (with_reducible refine Went.drew ?_)))
end Go.Proofs.Ytjfjpabfkembcaa.H
