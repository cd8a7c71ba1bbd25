/- JoinMail, the program's and the reference's: the walks. -/
import Derived.Test.YtjfjpabfkembcaaHJoinFlags
import Derived.Laws.Cover1
namespace Go.Proofs.Ytjfjpabfkembcaa.H
open Go.RowKit
set_option linter.unusedVariables false
set_option linter.unusedSimpArgs false
/-- The greater of two texts. -/
def txMax (a b : ByteArray) : ByteArray := if Op.bytesLess a.toList b.toList = true then b else a
def intMax (a b : Int) : Int := if a < b then b else a
theorem maxS (x y : ByteArray) : Builtin.max2 (.string x) (.string y) = pure (.string (txMax x y)) := by
  unfold txMax
  cases h : Op.bytesLess x.toList y.toList <;> simp [Builtin.max2, Op.stringOp, asBool, h]
theorem maxI (k k' : IntKind) (x y : Int) : Builtin.max2 (.int k x) (.int k' y) = pure (.int k (intMax x y)) := by simp only [Builtin.max2, gt_iff_lt, intMax]
theorem maxTwo (ats : Array TypeId) (ty : TypeId) (a b : Value) : Builtin.max_ ats ty #[a, b] = (Builtin.max2 a b >>= fun s => pure s) := by simp only [Builtin.max_, List.foldlM_cons, List.foldlM_nil]
theorem less_flip : ∀ (x y : List UInt8), (!(Op.bytesLess x y || x == y)) = Op.bytesLess y x
  | [], [] => rfl
  | _ :: _, [] => rfl
  | [], _ :: _ => rfl
  | a :: x, b :: y => by
    have ih := less_flip x y
    simp only [Op.bytesLess]
    rw [← ih]
    by_cases h1 : a < b
    · have h2 : ¬ b < a := by rw [UInt8.lt_iff_toNat_lt] at *; omega
      have h3 : a ≠ b := by rintro rfl; rw [UInt8.lt_iff_toNat_lt] at h1; omega
      simp [h1, h2, h3, Ne.symm h3]
    · by_cases h3 : a = b
      · subst h3
        simp [h1]
      · have h2 : b < a := by
          have : a.toNat ≠ b.toNat := fun h => h3 (UInt8.toNat_inj.1 h)
          rw [UInt8.lt_iff_toNat_lt] at *
          omega
        simp [h1, h2, h3]
theorem gtrS (t : TypeId) (a b : ByteArray) : binOp .gtr t (.string a) (.string b) = pure (.bool (Op.bytesLess b.toList a.toList)) := by
  rw [← less_flip]
  simp [binOp, Op.stringOp]
attribute [local go_sem] maxS maxI maxTwo gtrS
def joinMail (a b : Mail) : Mail := if a.g = b.g then ⟨a.g, intMax a.u b.u, joinFlags a.fl b.fl, txMax a.tx b.tx⟩ else a
set_option maxHeartbeats 2000000 in
set_option maxRecDepth 100000 in
theorem joinMail_calls (w : World) (fa fb : Value) (a b : Mail) (ha : rdRegs w fa a.fl) (hb : rdRegs w fb b.fl) (hl : a.fl.length ≤ 4000000) :
    Calls Try.prog 28 #[.agg #[.int .i64 a.g, .int .i64 a.u, fa, .string a.tx], .agg #[.int .i64 b.g, .int .i64 b.u, fb, .string b.tx]] w (RetMail w (joinMail a b)) := by
  obtain ⟨A0, c0, rfl, _, _⟩ := rd_len ha
  obtain ⟨A1, c1, rfl, _, _⟩ := rd_len hb
  have HR0 := Aside.mk ha
  have HR1 := Aside.mk hb
  have HLL := Aside.mk hl
  clear ha hb hl
  have L0 := Aside.mk (((Loc.new w #[.int .i64 a.g, .int .i64 a.u, .slice A0 a.fl.length c0, .string a.tx] 58).alloc (.cells #[.int .i64 b.g, .int .i64 b.u, .slice A1 b.fl.length c1, .string b.tx] 58)).alloc (.cells #[.int .i64 0, .int .i64 0, .slice none 0 0, .string ⟨#[]⟩] 58))
  have L1 := Aside.mk ((Loc.new1 w (.cells #[.int .i64 a.g, .int .i64 a.u, .slice A0 a.fl.length c0, .string a.tx] 58) #[.int .i64 b.g, .int .i64 b.u, .slice A1 b.fl.length c1, .string b.tx] 58).alloc (.cells #[.int .i64 0, .int .i64 0, .slice none 0 0, .string ⟨#[]⟩] 58))
  have L2 := Aside.mk (Loc.new2 w (.cells #[.int .i64 a.g, .int .i64 a.u, .slice A0 a.fl.length c0, .string a.tx] 58) (.cells #[.int .i64 b.g, .int .i64 b.u, .slice A1 b.fl.length c1, .string b.tx] 58) #[.int .i64 0, .int .i64 0, .slice none 0 0, .string ⟨#[]⟩] 58)
  by_cases hg : a.g = b.g
  · have HE : Aside (joinMail a b = ⟨a.g, intMax a.u b.u, joinFlags a.fl b.fl, txMax a.tx b.tx⟩) := ⟨by unfold joinMail; rw [if_pos hg]⟩
    obtain ⟨bg, bu, bf, bt⟩ := b
    dsimp only at hg
    subst hg
    go_enter Try.func28, Try.ntmps28
    go_wp2
    refine zBegin (S := (fun w' => Loc w' w.heap.size #[.int .i64 a.g, .int .i64 a.u, .slice A0 a.fl.length c0, .string a.tx] 58 ∧ Loc w' (w.heap.size + 1) #[.int .i64 a.g, .int .i64 bu, .slice A1 bf.length c1, .string bt] 58 ∧ Loc w' (w.heap.size + 1 + 1) #[.int .i64 0, .int .i64 0, .slice none 0 0, .string ⟨#[]⟩] 58)) (z := 18) (by kernel_rfl) (by exact ⟨L0.out.drew', L1.out.drew', L2.out.drew'⟩) (fun hHeld => ?_)
    refine zT 0 12 hHeld ?_
    refine zT 1 13 hHeld ?_
    refine zT 2 14 hHeld ?_
    refine zT 3 15 hHeld ?_
    refine zT 4 16 hHeld ?_
    refine zT 5 17 hHeld ?_
    refine zT 6 18 hHeld ?_
    refine zT 7 19 hHeld ?_
    refine zT 8 20 hHeld ?_
    refine zT 9 21 hHeld ?_
    refine zT 10 22 hHeld ?_
    refine zT 12 24 hHeld ?_
    refine zT 13 25 hHeld ?_
    refine zT 14 26 hHeld ?_
    refine zT 15 27 hHeld ?_
    refine zT 16 28 hHeld ?_
    refine zReady (rs := [11]) (by kernel_rfl) (by simp) ?_
    refine zOne (by decide) rfl (fun K hK => ?_) zNil
    go_simp
    refine (joinFlags_calls _ _ _ a.fl bf (rdRegs_mov (by (repeat (first | (with_reducible exact HB.out) | (with_reducible exact Below.refl _ _) | (with_reducible refine below_set ?_ (by first | omega | (dsimp only; omega) | (simp; done) | (simp; omega)) _) | (with_reducible refine below_alloc ?_ _) | (with_reducible refine below_drewN ?_ _) | (with_reducible refine below_drew ?_)))) HR0.out) (rdRegs_mov (by (repeat (first | (with_reducible exact HB.out) | (with_reducible exact Below.refl _ _) | (with_reducible refine below_set ?_ (by first | omega | (dsimp only; omega) | (simp; done) | (simp; omega)) _) | (with_reducible refine below_alloc ?_ _) | (with_reducible refine below_drewN ?_ _) | (with_reducible refine below_drew ?_)))) HR1.out) HLL.out).mono ?_; rintro e w1 ⟨fv, D, rfl, ho, hn, hb⟩; obtain ⟨A2, c2, rfl⟩ := cell_own ow_reg ho
    refine hK.out _ _ (by ((repeat' apply And.intro) <;> (first | exact Loc.below hHeld.1 hb | exact Loc.alloc hHeld.1 _ | exact cell_b hb hHeld.1 | exact cell_alloc' hHeld.1 _ | exact below_step hHeld.1 hb | exact below_alloc hHeld.1 _ | exact Loc.below hHeld hb | exact Loc.alloc hHeld _ | exact cell_b hb hHeld | exact cell_alloc' hHeld _ | exact below_step hHeld hb | exact below_alloc hHeld _ | exact Loc.below hHeld.2.1 hb | exact Loc.alloc hHeld.2.1 _ | exact cell_b hb hHeld.2.1 | exact cell_alloc' hHeld.2.1 _ | exact below_step hHeld.2.1 hb | exact below_alloc hHeld.2.1 _ | exact Loc.below hHeld.2 hb | exact Loc.alloc hHeld.2 _ | exact cell_b hb hHeld.2 | exact cell_alloc' hHeld.2 _ | exact below_step hHeld.2 hb | exact below_alloc hHeld.2 _ | exact Loc.below hHeld.2.2.1 hb | exact Loc.alloc hHeld.2.2.1 _ | exact cell_b hb hHeld.2.2.1 | exact cell_alloc' hHeld.2.2.1 _ | exact below_step hHeld.2.2.1 hb | exact below_alloc hHeld.2.2.1 _ | exact Loc.below hHeld.2.2 hb | exact Loc.alloc hHeld.2.2 _ | exact cell_b hb hHeld.2.2 | exact cell_alloc' hHeld.2.2 _ | exact below_step hHeld.2.2 hb | exact below_alloc hHeld.2.2 _ | exact Loc.below hHeld.2.2.2.1 hb | exact Loc.alloc hHeld.2.2.2.1 _ | exact cell_b hb hHeld.2.2.2.1 | exact cell_alloc' hHeld.2.2.2.1 _ | exact below_step hHeld.2.2.2.1 hb | exact below_alloc hHeld.2.2.2.1 _ | exact Loc.below hHeld.2.2.2 hb | exact Loc.alloc hHeld.2.2.2 _ | exact cell_b hb hHeld.2.2.2 | exact cell_alloc' hHeld.2.2.2 _ | exact below_step hHeld.2.2.2 hb | exact below_alloc hHeld.2.2.2 _ | exact Loc.below hHeld.2.2.2.2.1 hb | exact Loc.alloc hHeld.2.2.2.2.1 _ | exact cell_b hb hHeld.2.2.2.2.1 | exact cell_alloc' hHeld.2.2.2.2.1 _ | exact below_step hHeld.2.2.2.2.1 hb | exact below_alloc hHeld.2.2.2.2.1 _ | exact Loc.below hHeld.2.2.2.2 hb | exact Loc.alloc hHeld.2.2.2.2 _ | exact cell_b hb hHeld.2.2.2.2 | exact cell_alloc' hHeld.2.2.2.2 _ | exact below_step hHeld.2.2.2.2 hb | exact below_alloc hHeld.2.2.2.2 _ | exact Loc.below hHeld.2.2.2.2.2.1 hb | exact Loc.alloc hHeld.2.2.2.2.2.1 _ | exact cell_b hb hHeld.2.2.2.2.2.1 | exact cell_alloc' hHeld.2.2.2.2.2.1 _ | exact below_step hHeld.2.2.2.2.2.1 hb | exact below_alloc hHeld.2.2.2.2.2.1 _ | exact Loc.below hHeld.2.2.2.2.2 hb | exact Loc.alloc hHeld.2.2.2.2.2 _ | exact cell_b hb hHeld.2.2.2.2.2 | exact cell_alloc' hHeld.2.2.2.2.2 _ | exact below_step hHeld.2.2.2.2.2 hb | exact below_alloc hHeld.2.2.2.2.2 _ | exact Loc.below hHeld.2.2.2.2.2.2.1 hb | exact Loc.alloc hHeld.2.2.2.2.2.2.1 _ | exact cell_b hb hHeld.2.2.2.2.2.2.1 | exact cell_alloc' hHeld.2.2.2.2.2.2.1 _ | exact below_step hHeld.2.2.2.2.2.2.1 hb | exact below_alloc hHeld.2.2.2.2.2.2.1 _ | exact Loc.below hHeld.2.2.2.2.2.2 hb | exact Loc.alloc hHeld.2.2.2.2.2.2 _ | exact cell_b hb hHeld.2.2.2.2.2.2 | exact cell_alloc' hHeld.2.2.2.2.2.2 _ | exact below_step hHeld.2.2.2.2.2.2 hb | exact below_alloc hHeld.2.2.2.2.2.2 _ | exact Loc.below hHeld.2.2.2.2.2.2.2.1 hb | exact Loc.alloc hHeld.2.2.2.2.2.2.2.1 _ | exact cell_b hb hHeld.2.2.2.2.2.2.2.1 | exact cell_alloc' hHeld.2.2.2.2.2.2.2.1 _ | exact below_step hHeld.2.2.2.2.2.2.2.1 hb | exact below_alloc hHeld.2.2.2.2.2.2.2.1 _ | exact Loc.below hHeld.2.2.2.2.2.2.2 hb | exact Loc.alloc hHeld.2.2.2.2.2.2.2 _ | exact cell_b hb hHeld.2.2.2.2.2.2.2 | exact cell_alloc' hHeld.2.2.2.2.2.2.2 _ | exact below_step hHeld.2.2.2.2.2.2.2 hb | exact below_alloc hHeld.2.2.2.2.2.2.2 _ | exact Loc.below hHeld.2.2.2.2.2.2.2.2.1 hb | exact Loc.alloc hHeld.2.2.2.2.2.2.2.2.1 _ | exact cell_b hb hHeld.2.2.2.2.2.2.2.2.1 | exact cell_alloc' hHeld.2.2.2.2.2.2.2.2.1 _ | exact below_step hHeld.2.2.2.2.2.2.2.2.1 hb | exact below_alloc hHeld.2.2.2.2.2.2.2.2.1 _ | exact Loc.below hHeld.2.2.2.2.2.2.2.2 hb | exact Loc.alloc hHeld.2.2.2.2.2.2.2.2 _ | exact cell_b hb hHeld.2.2.2.2.2.2.2.2 | exact cell_alloc' hHeld.2.2.2.2.2.2.2.2 _ | exact below_step hHeld.2.2.2.2.2.2.2.2 hb | exact below_alloc hHeld.2.2.2.2.2.2.2.2 _))) (fun hHeld => ?_)
    clear hK K
    (try simp only [Act.put, List.setIfInBounds_toArray, List.set_cons_zero, List.set_cons_succ])
    have HO := Aside.mk ho; have HN := Aside.mk hn; have HB := Aside.mk (below_step (w0 := w) (by (repeat (first | (with_reducible exact HB.out) | (with_reducible exact Below.refl _ _) | (with_reducible refine below_set ?_ (by first | omega | (dsimp only; omega) | (simp; done) | (simp; omega)) _) | (with_reducible refine below_alloc ?_ _) | (with_reducible refine below_drewN ?_ _) | (with_reducible refine below_drew ?_)))) hb); clear ho hn hb; have l2 := hHeld.2.2.cells; have q2 := hHeld.2.2.lt; have f2 := hHeld.2.2.free
    refine zT 17 29 hHeld ?_
    refine zReady (rs := [18]) (by kernel_rfl) (by simp) ?_
    refine zLast rfl (fun K hK => ?_) zNil
    go_simp
    refine hK.out _ _ ?_
    clear hK K
    (try simp only [Act.put, List.setIfInBounds_toArray, List.set_cons_zero, List.set_cons_succ])
    refine zDone (by kernel_rfl) ?_ _
    have HD : Aside (∀ b ∈ D, w.heap.size + 3 ≤ b) := ⟨fun b hb => by have h1 := (HN.out.2 b hb).1; have h2 : w.heap.size + 3 ≤ ((((w.alloc (.cells #[.int .i64 a.g, .int .i64 a.u, .slice A0 a.fl.length c0, .string a.tx] 58)).alloc (.cells #[.int .i64 a.g, .int .i64 bu, .slice A1 bf.length c1, .string bt] 58)).alloc (.cells #[.int .i64 0, .int .i64 0, .slice none 0 0, .string ⟨#[]⟩] 58)).drew).heap.size := (by show _ ≤ (World.alloc _ _).heap.size; simp); omega⟩
    have HN0 : Aside (New w w1 D) := ⟨HN.out.1, fun b hb => ⟨by have := HD.out b hb; omega, (HN.out.2 b hb).2⟩⟩
    go_wp2
    refine bodyPost_ret (v := .agg #[.int .i64 a.g, .int .i64 (intMax a.u bu), .slice A2 (joinFlags a.fl bf).length c2, .string (txMax a.tx bt)]) (by simp [results, go_sem, l2, q2]) rfl ?_
    rw [HE.out]
    refine ⟨_, D, rfl, ?_, ?_, ?_⟩
    · (repeat (first | (with_reducible exact HO.out) | (with_reducible refine owRow_far ow_reg (w.heap.size + 3) ?_ HD.out (by first | omega | (dsimp only; omega) | (simp; done) | (simp; omega)) _) | (with_reducible refine owRow_alloc ow_reg ?_ _)))
    · (repeat (first | (with_reducible exact HN0.out) | (with_reducible refine New.set ?_ _ _) | (with_reducible refine New.alloc ?_ _) | (with_reducible refine New.drew ?_)))
    · (repeat (first | (with_reducible exact HB.out) | (with_reducible exact Below.refl _ _) | (with_reducible refine below_set ?_ (by first | omega | (dsimp only; omega) | (simp; done) | (simp; omega)) _) | (with_reducible refine below_alloc ?_ _) | (with_reducible refine below_drewN ?_ _) | (with_reducible refine below_drew ?_)))
  · have HE : Aside (joinMail a b = a) := ⟨by unfold joinMail; rw [if_neg hg]⟩
    go_enter Try.func28, Try.ntmps28
    go_wp2_with (fail)
    refine (copyMail_calls _ _ a (rdRegs_mov (by (repeat (first | (with_reducible exact HB.out) | (with_reducible exact Below.refl _ _) | (with_reducible refine below_set ?_ (by first | omega | (dsimp only; omega) | (simp; done) | (simp; omega)) _) | (with_reducible refine below_alloc ?_ _) | (with_reducible refine below_drewN ?_ _) | (with_reducible refine below_drew ?_)))) HR0.out) HLL.out).mono ?_
    rintro e w1 ⟨fv, D, rfl, ho, hn, hb⟩
    obtain ⟨A2, c2, rfl⟩ := cell_own ow_reg ho
    replace L2 := Aside.mk (L2.out.below hb)
    have HO := Aside.mk ho
    have HD : Aside (∀ b ∈ D, w.heap.size + 3 ≤ b) := ⟨fun b hb => by have := (hn.2 b hb).1; simp at this; omega⟩
    have HN0 := Aside.mk (hn.from (w0 := w) (by simp; omega))
    have HB := Aside.mk (below_step (w0 := w) (by (repeat (first | (with_reducible exact HB.out) | (with_reducible exact Below.refl _ _) | (with_reducible refine below_set ?_ (by first | omega | (dsimp only; omega) | (simp; done) | (simp; omega)) _) | (with_reducible refine below_alloc ?_ _) | (with_reducible refine below_drewN ?_ _) | (with_reducible refine below_drew ?_)))) hb)
    clear ho hn hb L0 L1
    have l2 := L2.out.cells
    have q2 := L2.out.lt
    have f2 := L2.out.free
    go_wp2
    refine bodyPost_ret (v := .agg #[.int .i64 a.g, .int .i64 a.u, .slice A2 a.fl.length c2, .string a.tx]) (by simp [results, go_sem, l2, q2]) rfl ?_
    rw [HE.out]
    refine ⟨_, D, rfl, ?_, ?_, ?_⟩
    · (repeat (first | (with_reducible exact HO.out) | (with_reducible refine owRow_far ow_reg (w.heap.size + 3) ?_ HD.out (by first | omega | (dsimp only; omega) | (simp; done) | (simp; omega)) _) | (with_reducible refine owRow_alloc ow_reg ?_ _)))
    · (repeat (first | (with_reducible exact HN0.out) | (with_reducible refine New.set ?_ _ _) | (with_reducible refine New.alloc ?_ _) | (with_reducible refine New.drew ?_)))
    · (repeat (first | (with_reducible exact HB.out) | (with_reducible exact Below.refl _ _) | (with_reducible refine below_set ?_ (by first | omega | (dsimp only; omega) | (simp; done) | (simp; omega)) _) | (with_reducible refine below_alloc ?_ _) | (with_reducible refine below_drewN ?_ _) | (with_reducible refine below_drew ?_)))
set_option maxHeartbeats 2000000 in
set_option maxRecDepth 100000 in
theorem specJoinMail_calls (w : World) (fa fb : Value) (a b : Mail) (ha : rdRegs w fa a.fl) (hb : rdRegs w fb b.fl) (hl : a.fl.length ≤ 4000000) :
    Calls Try.prog 26 #[.agg #[.int .i64 a.g, .int .i64 a.u, fa, .string a.tx], .agg #[.int .i64 b.g, .int .i64 b.u, fb, .string b.tx]] w (RetMail w (joinMail a b)) := by
  obtain ⟨ag, au, af, at_⟩ := a
  obtain ⟨bg, bu, bf, bt⟩ := b
  dsimp only at ha hb hl ⊢
  obtain ⟨A0, c0, rfl, _, _⟩ := rd_len ha
  obtain ⟨A1, c1, rfl, _, _⟩ := rd_len hb
  have HR0 := Aside.mk ha
  have HR1 := Aside.mk hb
  have HLL := Aside.mk hl
  clear ha hb hl
  go_enter Try.func26, Try.ntmps26
  go_wp2_with (fail)
  refine (l05Copy_calls _ _ ⟨ag, au, af, at_⟩ (rdRegs_mov (by (repeat (first | (with_reducible exact HB.out) | (with_reducible exact Below.refl _ _) | (with_reducible refine below_set ?_ (by first | omega | (dsimp only; omega) | (simp; done) | (simp; omega)) _) | (with_reducible refine below_alloc ?_ _) | (with_reducible refine below_drewN ?_ _) | (with_reducible refine below_drew ?_)))) HR0.out) HLL.out).mono ?_
  rintro e w1 ⟨fv, D, rfl, ho, hn, hb⟩
  obtain ⟨A3, c3, rfl⟩ := cell_own ow_reg ho
  have L0 := Aside.mk ((((Loc.new w #[.int .i64 ag, .int .i64 au, .slice A0 af.length c0, .string at_] 58).alloc (.cells #[.int .i64 bg, .int .i64 bu, .slice A1 bf.length c1, .string bt] 58)).alloc (.cells #[.int .i64 0, .int .i64 0, .slice none 0 0, .string ⟨#[]⟩] 58)).below hb)
  have L1 := Aside.mk (((Loc.new1 w (.cells #[.int .i64 ag, .int .i64 au, .slice A0 af.length c0, .string at_] 58) #[.int .i64 bg, .int .i64 bu, .slice A1 bf.length c1, .string bt] 58).alloc (.cells #[.int .i64 0, .int .i64 0, .slice none 0 0, .string ⟨#[]⟩] 58)).below hb)
  have L2 := Aside.mk ((Loc.new2 w (.cells #[.int .i64 ag, .int .i64 au, .slice A0 af.length c0, .string at_] 58) (.cells #[.int .i64 bg, .int .i64 bu, .slice A1 bf.length c1, .string bt] 58) #[.int .i64 0, .int .i64 0, .slice none 0 0, .string ⟨#[]⟩] 58).below hb)
  have HO := Aside.mk ho
  have HD : Aside (∀ b ∈ D, w.heap.size + 3 ≤ b) := ⟨fun b hb => by have := (hn.2 b hb).1; simp at this; omega⟩
  have HN0 := Aside.mk (hn.from (w0 := w) (by simp; omega))
  have HB := Aside.mk (below_step (w0 := w) (by (repeat (first | (with_reducible exact HB.out) | (with_reducible exact Below.refl _ _) | (with_reducible refine below_set ?_ (by first | omega | (dsimp only; omega) | (simp; done) | (simp; omega)) _) | (with_reducible refine below_alloc ?_ _) | (with_reducible refine below_drewN ?_ _) | (with_reducible refine below_drew ?_)))) hb)
  have HQ1 : Aside (w.heap.size + 3 ≤ w1.heap.size) := ⟨by have := L2.out.lt; omega⟩
  have q2 := L2.out.lt
  have hn1 : ∀ b ∈ D, b < w1.heap.size := fun b hb => (hn.2 b hb).2
  have HND := Aside.mk hn1
  clear ho hn hb hn1
  have l0 := L0.out.cells
  have l1 := L1.out.cells
  have q0 := L0.out.lt
  have q1 := L1.out.lt
  by_cases hg : ag = bg
  rotate_left
  · have HE : Aside (joinMail ⟨ag, au, af, at_⟩ ⟨bg, bu, bf, bt⟩ = ⟨ag, au, af, at_⟩) := ⟨by unfold joinMail; rw [if_neg hg]⟩
    have l2 := L2.out.cells
    have f2 := L2.out.free
    go_wp2
    refine bodyPost_ret (v := .agg #[.int .i64 ag, .int .i64 au, .slice A3 af.length c3, .string at_]) (by simp [results, go_sem, l2, q2]) rfl ?_
    rw [HE.out]
    refine ⟨_, D, rfl, ?_, ?_, ?_⟩
    · (repeat (first | (with_reducible exact HO.out) | (with_reducible refine owRow_far ow_reg (w.heap.size + 3) ?_ HD.out (by first | omega | (dsimp only; omega) | (simp; done) | (simp; omega)) _) | (with_reducible refine owRow_alloc ow_reg ?_ _)))
    · (repeat (first | (with_reducible exact HN0.out) | (with_reducible refine New.set ?_ _ _) | (with_reducible refine New.alloc ?_ _) | (with_reducible refine New.drew ?_)))
    · (repeat (first | (with_reducible exact HB.out) | (with_reducible exact Below.refl _ _) | (with_reducible refine below_set ?_ (by first | omega | (dsimp only; omega) | (simp; done) | (simp; omega)) _) | (with_reducible refine below_alloc ?_ _) | (with_reducible refine below_drewN ?_ _) | (with_reducible refine below_drew ?_)))
  · have HE : Aside (joinMail ⟨ag, au, af, at_⟩ ⟨bg, bu, bf, bt⟩ = ⟨ag, intMax au bu, joinFlags af bf, txMax at_ bt⟩) := ⟨by unfold joinMail; rw [if_pos hg]⟩
    subst hg
    clear q2 HND HO HN0
    go_wp2_with (fail)
    refine (specJoinFlags_calls _ _ _ af bf (rdRegs_mov (by (repeat (first | (with_reducible exact HB.out) | (with_reducible exact Below.refl _ _) | (with_reducible refine below_set ?_ (by first | omega | (dsimp only; omega) | (simp; done) | (simp; omega)) _) | (with_reducible refine below_alloc ?_ _) | (with_reducible refine below_drewN ?_ _) | (with_reducible refine below_drew ?_)))) HR0.out) (rdRegs_mov (by (repeat (first | (with_reducible exact HB.out) | (with_reducible exact Below.refl _ _) | (with_reducible refine below_set ?_ (by first | omega | (dsimp only; omega) | (simp; done) | (simp; omega)) _) | (with_reducible refine below_alloc ?_ _) | (with_reducible refine below_drewN ?_ _) | (with_reducible refine below_drew ?_)))) HR1.out) HLL.out).mono ?_
    rintro e w2 ⟨fv2, D2, rfl, ho, hn, hb⟩
    obtain ⟨A4, c4, rfl⟩ := cell_own ow_reg ho
    have L3 := Aside.mk ((Loc.new w1 #[.int .i64 ag, .int .i64 au, .slice A3 af.length c3, .string at_] 58).below hb)
    replace L0 := Aside.mk ((L0.out.alloc (.cells #[.int .i64 ag, .int .i64 au, .slice A3 af.length c3, .string at_] 58)).below hb)
    replace L1 := Aside.mk ((L1.out.alloc (.cells #[.int .i64 ag, .int .i64 au, .slice A3 af.length c3, .string at_] 58)).below hb)
    replace L2 := Aside.mk ((L2.out.alloc (.cells #[.int .i64 ag, .int .i64 au, .slice A3 af.length c3, .string at_] 58)).below hb)
    have HO := Aside.mk ho
    have HD2 : Aside (∀ b ∈ D2, w1.heap.size + 1 ≤ b) := ⟨fun b hb => by have := (hn.2 b hb).1; simp at this; omega⟩
    have HN0 : Aside (New w w2 D2) := ⟨hn.1, fun b hb => ⟨by have := HD2.out b hb; have := HQ1.out; omega, (hn.2 b hb).2⟩⟩
    replace HB := Aside.mk (below_step (w0 := w) (by (repeat (first | (with_reducible exact HB.out) | (with_reducible exact Below.refl _ _) | (with_reducible refine below_set ?_ (by first | omega | (dsimp only; omega) | (simp; done) | (simp; omega)) _) | (with_reducible refine below_alloc ?_ _) | (with_reducible refine below_drewN ?_ _) | (with_reducible refine below_drew ?_)))) hb)
    clear ho hn hb l0 l1 q0 q1
    have l0 := L0.out.cells
    have l1 := L1.out.cells
    have l2 := L2.out.cells
    have l3 := L3.out.cells
    have q2 := L2.out.lt
    have q3 := L3.out.lt
    have f2 := L2.out.free
    have f3 := L3.out.free
    have hne0 : w.heap.size ≠ w1.heap.size := by have := HQ1.out; omega
    have hne1 : w.heap.size + 1 ≠ w1.heap.size := by have := HQ1.out; omega
    have hne2 : w.heap.size + 1 + 1 ≠ w1.heap.size := by have := HQ1.out; omega
    by_cases hu : au < bu <;> rcases h5 : Op.bytesLess bt.toList at_.toList with _ | _ <;> rcases h6 : (bt.toList == at_.toList) with _ | _
    all_goals
      have ht := less_flip bt.toList at_.toList
      rw [h5, h6] at ht
      simp only [Bool.or_false, Bool.or_true, Bool.false_or, Bool.true_or, Bool.not_false, Bool.not_true] at ht
      have EU : Aside (intMax au bu = bu ∨ intMax au bu = au) := ⟨by unfold intMax; split <;> simp⟩
      first
        | (have eu : intMax au bu = bu := by unfold intMax; rw [if_pos hu]
           have HU := Aside.mk eu
           clear eu)
        | (have eu : intMax au bu = au := by unfold intMax; rw [if_neg hu]
           have HU := Aside.mk eu
           clear eu)
      first
        | (have et : txMax at_ bt = bt := by unfold txMax; rw [if_pos ht.symm]
           have HT := Aside.mk et
           clear et ht)
        | (have et : txMax at_ bt = at_ := by unfold txMax; rw [if_neg (by rw [← ht]; decide)]
           have HT := Aside.mk et
           clear et ht)
      go_wp2
      refine bodyPost_ret (v := .agg #[.int .i64 ag, .int .i64 (intMax au bu), .slice A4 (joinFlags af bf).length c4, .string (txMax at_ bt)]) (by rw [HU.out, HT.out]; simp [results, go_sem, l2, q2]) rfl ?_
      rw [HE.out]
      have hq := HQ1.out
      refine ⟨_, D2, rfl, ?_, ?_, ?_⟩
      · (repeat (first | (with_reducible exact HO.out) | (with_reducible refine owRow_far ow_reg (w1.heap.size + 1) ?_ HD2.out (by first | omega | (dsimp only; omega) | (simp; done) | (simp; omega)) _) | (with_reducible refine owRow_alloc ow_reg ?_ _)))
      · (repeat (first | (with_reducible exact HN0.out) | (with_reducible refine New.set ?_ _ _) | (with_reducible refine New.alloc ?_ _) | (with_reducible refine New.drew ?_)))
      · (repeat (first | (with_reducible exact HB.out) | (with_reducible exact Below.refl _ _) | (with_reducible refine below_set ?_ (by first | omega | (dsimp only; omega) | (simp; done) | (simp; omega)) _) | (with_reducible refine below_alloc ?_ _) | (with_reducible refine below_drewN ?_ _) | (with_reducible refine below_drew ?_)))
end Go.Proofs.Ytjfjpabfkembcaa.H
