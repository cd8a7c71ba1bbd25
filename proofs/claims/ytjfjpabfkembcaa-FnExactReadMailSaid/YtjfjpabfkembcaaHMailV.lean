/- A variable that holds a mail which the call owns; marks of one mail. No program but the statements' mark and held functions in it. -/
import Derived.Test.YtjfjpabfkembcaaHLaw
import Derived.Test.YtjfjpabfkembcaaHJoinMail
import Derived.Test.YtjfjpabfkembcaaHOwn3
namespace Go.Proofs.Ytjfjpabfkembcaa.H
open Go.RowKit
set_option linter.unusedVariables false
set_option linter.unusedSimpArgs false
def HasMail (w0 w : World) (B : Nat) (D : List Nat) (x : Mail) : Prop := ∃ A c, Loc w B #[.int .i64 x.g, .int .i64 x.u, .slice A x.fl.length c, .string x.tx] 58 ∧ owRegs w D (.slice A x.fl.length c) x.fl ∧ New w0 w D ∧ B ∉ D ∧ w0.heap.size ≤ B
theorem HasMail.made {w0 w : World} {D : List Nat} {A : Option Addr} {c : Nat} {x : Mail} (ho : owRegs w D (.slice A x.fl.length c) x.fl) (hn : New w0 w D) (hs : w0.heap.size ≤ w.heap.size) :
    HasMail w0 (w.alloc (.cells #[.int .i64 x.g, .int .i64 x.u, .slice A x.fl.length c, .string x.tx] 58)) w.heap.size D x :=
  ⟨A, c, Loc.new w _ _, owRow_alloc ow_reg ho _, hn.alloc _, fun hb => by have := (hn.2 _ hb).2; omega, hs⟩
theorem putAll4 (a0 a1 a2 a3 z0 z1 z2 z3 : Value) : putAll #[z0, z1, z2, z3] 0 [a0, a1, a2, a3] = #[a0, a1, a2, a3] := by simp [putAll]
theorem HasMail.stored {w0 w : World} {B : Nat} {D : List Nat} {A : Option Addr} {c : Nat} {x : Mail} {z0 z1 z2 z3 : Value} (ho : owRegs w D (.slice A x.fl.length c) x.fl) (hn : New w0 w D) (hl : Loc w B #[z0, z1, z2, z3] 58) (hB : B ∉ D) (hb : w0.heap.size ≤ B) :
    HasMail w0 (sets w B 0 [.int .i64 x.g, .int .i64 x.u, .slice A x.fl.length c, .string x.tx]) B D x :=
  ⟨A, c, by have h := sets_loc [.int .i64 x.g, .int .i64 x.u, .slice A x.fl.length c, .string x.tx] 0 w _ hl; rw [putAll4] at h; exact h, owRow_sets ow_reg ho hB _ _, hn.sets2 _ _ _, hB, hb⟩
set_option maxHeartbeats 2000000 in
set_option maxRecDepth 100000 in
theorem markMail_calls (w : World) (D : List Nat) (v : Value) (m : Mail) (k : Int) (h : owRegs w D v m.fl) (hN : D.Nodup) (h0 : 0 ≤ k) (h1 : k + 3 * m.fl.length ≤ 1000000000000) :
    Calls Try.prog 30 #[.agg #[.int .i64 m.g, .int .i64 m.u, v, .string m.tx], .int .i64 k] w (RetMk owRegs D v (mkRegs k m.fl) (k + 3 * m.fl.length) w) := by
  obtain ⟨A2, c2, rfl⟩ := cell_own' ow_reg h
  have HO := Aside.mk h
  have HN := Aside.mk hN
  clear h hN
  go_enter Try.func30, Try.ntmps30
  go_wp2_with (fail)
  refine (markRegs_calls _ D _ m.fl k (owRow_alloc ow_reg HO.out _) HN.out h0 h1).mono ?_
  rintro e w1 ⟨rfl, ⟨E1, ho, hnd2, hsub⟩, hk⟩
  have HM := Aside.mk ho
  have NM := Aside.mk hnd2
  have SM := Aside.mk hsub
  have KM := Aside.mk hk
  clear ho hnd2 hsub hk
  go_wp2
  go_ret
  exact ⟨rfl, ⟨E1, HM.out, NM.out, SM.out⟩, ((Keep.refl _ w).alloc _).trans KM.out⟩
set_option maxHeartbeats 2000000 in
set_option maxRecDepth 100000 in
theorem heldMail_calls (w : World) (v : Value) (m : Mail) (k : Int) (h : rdRegs w v (mkRegs k m.fl)) (h0 : 0 ≤ k) (h1 : k + 3 * m.fl.length ≤ 1000000000000) :
    Calls Try.prog 31 #[.agg #[.int .i64 m.g, .int .i64 m.u, v, .string m.tx], .int .i64 k] w (RetK (k + 3 * m.fl.length) w) := by
  have o1 := rd_one h
  have HR := Aside.mk h
  clear h
  go_enter Try.func31, Try.ntmps31
  go_wp2_with (go_at_call 110; refine (heldRegs_calls _ _ m.fl _ (rdRegs_mov (below_alloc (Below.refl _ _) _) HR.out) (by omega) (by omega)).mono ?_; rintro e w1 ⟨rfl, hb⟩; have HB := Aside.mk (below_step (below_alloc (Below.refl _ _) _) hb); clear hb)
  go_ret
  exact ⟨rfl, HB.out⟩
end Go.Proofs.Ytjfjpabfkembcaa.H
