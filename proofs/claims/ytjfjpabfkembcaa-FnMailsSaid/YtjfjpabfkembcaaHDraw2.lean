/- Drawn stamps and registers of whatever kind: the walks. -/
import Derived.Test.YtjfjpabfkembcaaHDraw1
namespace Go.Proofs.Ytjfjpabfkembcaa.H
open Go.RowKit
set_option linter.unusedVariables false
set_option linter.unusedSimpArgs false
set_option maxHeartbeats 2000000 in
set_option maxRecDepth 100000 in
theorem l03Any_calls (W w : World) (C : Nat) (hc : HasCur W w C) :
    Calls Try.prog 128 #[.pointer (some ⟨C, 0, none⟩)] w fun e w' => ∃ t b : Int, e = .returned (.agg #[.int .i64 t, .int .i64 b]) ∧ Went W w w' C := by
  have HL := Aside.mk hc.lt
  have HW := Aside.mk (Went.refl hc)
  clear hc
  go_enter Try.func128, Try.ntmps128
  go_wp2_with (fail)
  replace HW := Aside.mk (HW.out.alloc (.cells #[.int .i64 0, .int .i64 0] 29))
  have L0 := Aside.mk (Loc.new w #[.int .i64 0, .int .i64 0] 29)
  refine (l03Stamp_calls W _ C HW.out.1).mono ?_
  rintro e w1 ⟨t, b, rfl, _, _, _, _, hw⟩
  replace L0 := Aside.mk (L0.out.went hw (by have := HL.out; (try have := HQ1.out); (try have := HQ2.out); (try have := HQ3.out); omega)); replace HW := Aside.mk (HW.out.trans hw); clear hw; (try clear l0); (try clear q0); (try clear f0); have l0 := L0.out.cells; have q0 := L0.out.lt; have f0 := L0.out.free
  have HQ1 : Aside (w.heap.size < w1.heap.size) := ⟨q0⟩
  clear l0 q0 f0
  go_wp2_with (fail)
  replace HW := Aside.mk (HW.out.alloc (.cells #[.int .i64 t, .int .i64 b] 29))
  replace L0 := Aside.mk (L0.out.alloc (.cells #[.int .i64 t, .int .i64 b] 29))
  have L1 := Aside.mk (Loc.new w1 #[.int .i64 t, .int .i64 b] 29)
  refine (l01Below_calls W _ C _ HW.out.1).mono ?_
  rintro e w2 ⟨k, rfl, hk0, _, hk1, hw⟩
  replace L0 := Aside.mk (L0.out.went hw (by have := HL.out; (try have := HQ1.out); (try have := HQ2.out); (try have := HQ3.out); omega)); replace L1 := Aside.mk (L1.out.went hw (by have := HL.out; (try have := HQ1.out); (try have := HQ2.out); (try have := HQ3.out); omega)); replace HW := Aside.mk (HW.out.trans hw); clear hw; (try clear l0); (try clear q0); (try clear f0); (try clear l1); (try clear q1); (try clear f1); have l0 := L0.out.cells; have q0 := L0.out.lt; have f0 := L0.out.free; have l1 := L1.out.cells; have q1 := L1.out.lt; have f1 := L1.out.free
  have HQ2 : Aside (w1.heap.size < w2.heap.size) := ⟨q1⟩
  have hne : w.heap.size ≠ w1.heap.size := by have := HQ1.out; omega
  clear hk0 hk1
  by_cases hk : k = 0
  · subst hk
    go_wp2_with (fail)
    replace HW := Aside.mk (HW.out.alloc (.cells #[.int .i64 (-1), .int .i64 100000, .int .i64 100001] 3))
    replace L0 := Aside.mk (L0.out.alloc (.cells #[.int .i64 (-1), .int .i64 100000, .int .i64 100001] 3))
    replace L1 := Aside.mk (L1.out.alloc (.cells #[.int .i64 (-1), .int .i64 100000, .int .i64 100001] 3))
    refine (l01PickInt_calls W _ C _ _ [-1, 100000, 100001] HW.out.1 (rdInts_lit w2 _ rfl [-1, 100000, 100001] (by decide) 3) (fun ad e => by injection e with e; subst e; show w2.heap.size ≠ C; have := HL.out; have := HQ2.out; omega) (by decide)).mono ?_
    rintro e w3 ⟨x, rfl, _, hw⟩
    replace L0 := Aside.mk (L0.out.went hw (by have := HL.out; (try have := HQ1.out); (try have := HQ2.out); (try have := HQ3.out); omega)); replace L1 := Aside.mk (L1.out.went hw (by have := HL.out; (try have := HQ1.out); (try have := HQ2.out); (try have := HQ3.out); omega)); replace HW := Aside.mk (HW.out.trans hw); clear hw; (try clear l0); (try clear q0); (try clear f0); (try clear l1); (try clear q1); (try clear f1); have l0 := L0.out.cells; have q0 := L0.out.lt; have f0 := L0.out.free; have l1 := L1.out.cells; have q1 := L1.out.lt; have f1 := L1.out.free
    go_wp2
    refine bodyPost_ret (v := .agg #[.int .i64 x, .int .i64 b]) (by simp [results, go_sem, l0, q0, l1, q1]) rfl ⟨_, _, rfl, ?_⟩
    (repeat (first | (with_reducible exact HW.out) | (with_reducible refine Went.set ?_ (by first | omega | (dsimp only; omega) | (simp; done) | (simp; omega) | (have h1_ := HQ1.out; dsimp only; omega) | (have h1_ := HQ1.out; have h2_ := HQ2.out; dsimp only; omega)) _) | (with_reducible refine Went.alloc ?_ _) | (with_reducible refine Went.drewN ?_ _) | (with_reducible refine Went.drew ?_)))
  · by_cases hk1 : k = 1
    · subst hk1
      clear hk
      go_wp2_with (fail)
      replace HW := Aside.mk (HW.out.alloc (.cells #[.int .i64 (-1), .int .i64 0, .int .i64 3] 3))
      replace L0 := Aside.mk (L0.out.alloc (.cells #[.int .i64 (-1), .int .i64 0, .int .i64 3] 3))
      replace L1 := Aside.mk (L1.out.alloc (.cells #[.int .i64 (-1), .int .i64 0, .int .i64 3] 3))
      refine (l01PickInt_calls W _ C _ _ [-1, 0, 3] HW.out.1 (rdInts_lit w2 _ rfl [-1, 0, 3] (by decide) 3) (fun ad e => by injection e with e; subst e; show w2.heap.size ≠ C; have := HL.out; have := HQ2.out; omega) (by decide)).mono ?_
      rintro e w3 ⟨x, rfl, _, hw⟩
      replace L0 := Aside.mk (L0.out.went hw (by have := HL.out; (try have := HQ1.out); (try have := HQ2.out); (try have := HQ3.out); omega)); replace L1 := Aside.mk (L1.out.went hw (by have := HL.out; (try have := HQ1.out); (try have := HQ2.out); (try have := HQ3.out); omega)); replace HW := Aside.mk (HW.out.trans hw); clear hw; (try clear l0); (try clear q0); (try clear f0); (try clear l1); (try clear q1); (try clear f1); have l0 := L0.out.cells; have q0 := L0.out.lt; have f0 := L0.out.free; have l1 := L1.out.cells; have q1 := L1.out.lt; have f1 := L1.out.free
      go_wp2
      refine bodyPost_ret (v := .agg #[.int .i64 t, .int .i64 x]) (by simp [results, go_sem, l0, q0, l1, q1]) rfl ⟨_, _, rfl, ?_⟩
      (repeat (first | (with_reducible exact HW.out) | (with_reducible refine Went.set ?_ (by first | omega | (dsimp only; omega) | (simp; done) | (simp; omega) | (have h1_ := HQ1.out; dsimp only; omega) | (have h1_ := HQ1.out; have h2_ := HQ2.out; dsimp only; omega)) _) | (with_reducible refine Went.alloc ?_ _) | (with_reducible refine Went.drewN ?_ _) | (with_reducible refine Went.drew ?_)))
    · go_wp2
      refine bodyPost_ret (v := .agg #[.int .i64 t, .int .i64 b]) (by simp [results, go_sem, l0, q0, l1, q1]) rfl ⟨_, _, rfl, ?_⟩
      (repeat (first | (with_reducible exact HW.out) | (with_reducible refine Went.set ?_ (by first | omega | (dsimp only; omega) | (simp; done) | (simp; omega) | (have h1_ := HQ1.out; dsimp only; omega) | (have h1_ := HQ1.out; have h2_ := HQ2.out; dsimp only; omega)) _) | (with_reducible refine Went.alloc ?_ _) | (with_reducible refine Went.drewN ?_ _) | (with_reducible refine Went.drew ?_)))
end Go.Proofs.Ytjfjpabfkembcaa.H
