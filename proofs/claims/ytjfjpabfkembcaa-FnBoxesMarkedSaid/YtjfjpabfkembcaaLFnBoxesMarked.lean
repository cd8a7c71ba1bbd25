/- A drawn box: the walk. Printed by this session's gen_drawbox.py. The walk of the statement on marked boxes. Printed by this session's gen_lawboxes.py. -/
import Derived.Test.YtjfjpabfkembcaaHFineM
import Derived.Test.YtjfjpabfkembcaaHDrawM
import Derived.Test.YtjfjpabfkembcaaHFlagM
import Derived.Test.YtjfjpabfkembcaaHTakeM
import Derived.Test.YtjfjpabfkembcaaHSameM
namespace Go.Proofs.Ytjfjpabfkembcaa.H
open Go.RowKit
set_option linter.unusedVariables false
set_option linter.unusedSimpArgs false
/-! A drawn box: the walk. Printed by this session's gen_drawbox.py. -/
theorem fine_sm {b : Box} (h : fineBox b) : smBox b := ⟨⟨by have := fine_len h; omega, fun m hm => by have := fine_fl h hm; omega⟩, by have := fine_gone h; omega⟩
theorem fine_tx {b : Box} (h : fineBox b) : txBox b := by
  obtain ⟨k1, k2, _⟩ := box_iff.1 h.1
  unfold boxHead nameOk at k1
  simp only [Bool.and_eq_true, isIn_iff] at k1
  refine ⟨by have := k1.1.1.1.1.2.2; omega, fun m hm => ?_⟩
  have := (k2 m hm).1
  unfold mailOk at this
  simp only [Bool.and_eq_true, decide_eq_true_eq] at this
  omega
theorem fine_new {nm : ByteArray} {t y x : Int} (hn : nameOk nm = true) (ht : 0 ≤ t ∧ t < 12) (hy : 1 ≤ y ∧ y ≤ 2) (hx : 0 ≤ x ∧ x < 4) : fineBox ⟨7, nm, t, y, 1 + x, [], []⟩ := by
  refine ⟨?_, by simp, by simp⟩
  unfold boxOk boxHead stampOk
  rw [hn, isIn_yes (by dsimp only; decide) (by dsimp only; decide), isIn_yes (by dsimp only; omega) (by dsimp only; omega), isIn_yes (by dsimp only; omega) (by dsimp only; omega), isIn_yes (by dsimp only; omega) (by dsimp only; omega)]
  rfl
/-- What is read of a box's two rows. -/
def rdParts (b : Box) (mv gv : Value) (w : World) : Prop := rdMails w mv b.ml ∧ rdInts w gv b.go
/-- A variable that holds a drawn box. -/
def HasFine (w0 w : World) (B : Nat) (D : List Nat) (b : Box) : Prop := ∃ Am cm Ag cg, Loc w B #[.int .i64 b.g, .string b.nm, .int .i64 b.t, .int .i64 b.b, .int .i64 b.nx, .slice Am b.ml.length cm, .slice Ag b.go.length cg] 32 ∧ Rests D w (rdParts b (.slice Am b.ml.length cm) (.slice Ag b.go.length cg)) ∧ New w0 w D ∧ B ∉ D ∧ w0.heap.size ≤ B ∧ fineBox b
theorem rests_box {w' : World} {D1 D2 : List Nat} {b : Box} {v1 v2 : Value} (h1 : owMails w' D1 v1 b.ml) (h2 : owInts w' D2 v2 b.go) : Rests (D1 ++ D2) w' (rdParts b v1 v2) := fun wq hq =>
  ⟨owRow_rd ow_mail (owRow_mov ow_mail h1 fun q hq' => hq q (by simp [hq'])), owRow_rd ow_int (owRow_mov ow_int h2 fun q hq' => hq q (by simp [hq']))⟩
theorem HasFine.went {W w0 w w1 : World} {B C : Nat} {D : List Nat} {b : Box} (h : HasFine w0 w B D b) (hw : Went W w w1 C) (hB : B ≠ C) (hC : C < w0.heap.size) : HasFine w0 w1 B D b := by
  obtain ⟨Am, cm, Ag, cg, h1, h2, h3, h4, h5, h6⟩ := h
  exact ⟨Am, cm, Ag, cg, h1.went hw hB, h2.went h3 hw (h3.offC hC), h3.mono hw.size, h4, h5, h6⟩
theorem HasFine.below {w0 w w1 : World} {B : Nat} {D : List Nat} {b : Box} (h : HasFine w0 w B D b) (hb : Below w.heap.size w w1) : HasFine w0 w1 B D b := by
  obtain ⟨Am, cm, Ag, cg, h1, h2, h3, h4, h5, h6⟩ := h
  exact ⟨Am, cm, Ag, cg, h1.below hb, h2.below h3 hb, h3.mono hb.size, h4, h5, h6⟩
theorem HasFine.stored {w0 w : World} {B : Nat} {D1 D2 : List Nat} {b : Box} {Am Ag : Option Addr} {cm cg : Nat} {z0 z1 z2 z3 z4 z5 z6 : Value} (h1 : owMails w D1 (.slice Am b.ml.length cm) b.ml) (h2 : owInts w D2 (.slice Ag b.go.length cg) b.go)
    (hn : New w0 w (D1 ++ D2)) (hl : Loc w B #[z0, z1, z2, z3, z4, z5, z6] 32) (hB : B ∉ D1 ++ D2) (hb : w0.heap.size ≤ B) (hf : fineBox b) :
    HasFine w0 (sets w B 0 [.int .i64 b.g, .string b.nm, .int .i64 b.t, .int .i64 b.b, .int .i64 b.nx, .slice Am b.ml.length cm, .slice Ag b.go.length cg]) B (D1 ++ D2) b :=
  ⟨Am, cm, Ag, cg, by have h := sets_loc [.int .i64 b.g, .string b.nm, .int .i64 b.t, .int .i64 b.b, .int .i64 b.nx, .slice Am b.ml.length cm, .slice Ag b.go.length cg] 0 w _ hl; rw [putAll7] at h; exact h,
    (rests_box h1 h2).move fun q hq => sets_far B _ _ _ q (fun e => hB (e ▸ hq)), hn.sets2 _ _ _, hB, hb, hf⟩
def NameP (s : ByteArray) : Prop := nameOk s = true
theorem name0 : NameP ⟨#[105, 110, 98, 111, 120]⟩ := by unfold NameP; decide
theorem name1 : NameP ⟨#[119, 111, 114, 107]⟩ := by unfold NameP; decide
theorem name2 : NameP ⟨#[111, 108, 100, 57]⟩ := by unfold NameP; decide
/-- What stays while a drawn box is worked on. -/
def Hold (W wz w : World) (C : Nat) (D : List Nat) (K : World → Prop) (Z : Array Value) (T : TypeId) (w' : World) : Prop := Went W w w' C ∧ Rests D w' K ∧ New wz w' D ∧ Loc w' w.heap.size Z T
theorem Hold.went {W wz w w' w'' : World} {C : Nat} {D : List Nat} {K : World → Prop} {Z : Array Value} {T : TypeId} (h : Hold W wz w C D K Z T w') (hw : Went W w' w'' C) (hC : C < w.heap.size) (hz : w.heap.size ≤ wz.heap.size) : Hold W wz w C D K Z T w'' :=
  ⟨h.1.trans hw, h.2.1.went h.2.2.1 hw (h.2.2.1.offC (by omega)), h.2.2.1.mono hw.size, h.2.2.2.went hw (by omega)⟩
theorem Hold.below {W wz w w' w'' : World} {C : Nat} {D : List Nat} {K : World → Prop} {Z : Array Value} {T : TypeId} (h : Hold W wz w C D K Z T w') (hb : Below w'.heap.size w' w'') : Hold W wz w C D K Z T w'' :=
  ⟨h.1.below hb, h.2.1.below h.2.2.1 hb, h.2.2.1.mono hb.size, h.2.2.2.below hb⟩
theorem Hold.drew {W wz w w' : World} {C : Nat} {D : List Nat} {K : World → Prop} {Z : Array Value} {T : TypeId} (h : Hold W wz w C D K Z T w') : Hold W wz w C D K Z T w'.drew := Hold.below h (below_drew (Below.refl _ _))
/-- A drawn box and a mark, told. -/
def RetFine (w : World) (e : Ending) (w' : World) : Prop := ∃ (rb : Box) (ok : Bool) (An : Option Addr) (cn : Nat) (Ah : Option Addr) (ch : Nat) (D1 D2 : List Nat), e = .returned (.tuple #[.agg #[.int .i64 rb.g, .string rb.nm, .int .i64 rb.t, .int .i64 rb.b, .int .i64 rb.nx, .slice An rb.ml.length cn, .slice Ah rb.go.length ch], .bool ok]) ∧
  owMails w' D1 (.slice An rb.ml.length cn) rb.ml ∧ owInts w' D2 (.slice Ah rb.go.length ch) rb.go ∧ New w w' (D1 ++ D2) ∧ fineBox rb ∧ Below w.heap.size w w'
theorem retFine_of {w : World} {r : Box × Bool} (hf : fineBox r.1) {e : Ending} {w' : World} (h : RetBoxB w r e w') : RetFine w e w' := by
  obtain ⟨mv, gv, D, rfl, ho, hn, hb⟩ := h
  obtain ⟨A2, c2, A3, c3, D1, D2, rfl, rfl, rfl, h1, h2⟩ := box_parts ho
  exact ⟨r.1, r.2, A2, c2, A3, c3, D1, D2, rfl, h1, h2, hn, hf, hb⟩
theorem addFine (w : World) (mv gv : Value) (b : Box) (g f : Int) (tx : ByteArray) (t y : Int) (hf : fineBox b) (h : rdParts b mv gv w) (htx : tx.size ≤ 10) (ht : 0 ≤ t ∧ t < 12) (hy : 1 ≤ y ∧ y ≤ 2) :
    Calls Try.prog 169 #[.agg #[.int .i64 b.g, .string b.nm, .int .i64 b.t, .int .i64 b.b, .int .i64 b.nx, mv, gv], .int .i64 g, .int .i64 f, .string tx, .agg #[.int .i64 t, .int .i64 y]] w (RetFine w) :=
  (specAddMail_calls w mv gv b g f tx t y h.1 h.2 (fine_sm hf) (fine_tx hf) (by omega)).mono fun e w' hr => retFine_of (fine_add hf g f tx ht hy) hr
theorem flagFine (w : World) (mv gv : Value) (b : Box) (g n t y : Int) (hf : fineBox b) (h : rdParts b mv gv w) (ht : 0 ≤ t ∧ t < 12) (hy : 1 ≤ y ∧ y ≤ 2) :
    Calls Try.prog 171 #[.agg #[.int .i64 b.g, .string b.nm, .int .i64 b.t, .int .i64 b.b, .int .i64 b.nx, mv, gv], .int .i64 g, .int .i64 n, .agg #[.int .i64 t, .int .i64 y]] w (RetFine w) :=
  (specFlagMail_calls w mv gv b g n t y h.1 h.2 (fine_sm hf) (fine_tx hf)).mono fun e w' hr => retFine_of (fine_flag hf g n ht hy) hr
theorem takeFine (w : World) (mv gv : Value) (b : Box) (g : Int) (hf : fineBox b) (h : rdParts b mv gv w) (hg : 10 ≤ g ∧ g ≤ 18) :
    Calls Try.prog 12 #[.agg #[.int .i64 b.g, .string b.nm, .int .i64 b.t, .int .i64 b.b, .int .i64 b.nx, mv, gv], .int .i64 g] w (RetFine w) :=
  (specTakeOut_calls w mv gv b g h.1 h.2 (fine_sm hf) (fine_tx hf)).mono fun e w' hr => retFine_of (fine_take hf hg) hr
theorem rests_nil (w : World) (b : Box) (h1 : b.ml = []) (h2 : b.go = []) : Rests [] w (rdParts b (.slice none b.ml.length 0) (.slice none b.go.length 0)) := fun wq _ => by
  unfold rdParts
  rw [h1, h2]
  exact ⟨⟨none, 0, rfl, Nat.le_refl _, by simp, fun _ => rfl, fun i x hx => by simp at hx⟩, ⟨none, 0, rfl, Nat.le_refl _, by simp, fun _ => rfl, fun i x hx => by simp at hx⟩⟩
theorem fine_made {w0 w : World} {B : Nat} {nm : ByteArray} {t y x : Int} (hl : Loc w B #[.int .i64 7, .string nm, .int .i64 t, .int .i64 y, .int .i64 (1 + x), .slice none 0 0, .slice none 0 0] 32) (hB : w0.heap.size ≤ B) (hn : nameOk nm = true) (ht : 0 ≤ t ∧ t < 12) (hy : 1 ≤ y ∧ y ≤ 2) (hx : 0 ≤ x ∧ x < 4) :
    HasFine w0 w B [] ⟨7, nm, t, y, 1 + x, [], []⟩ := ⟨none, 0, none, 0, hl, rests_nil w ⟨7, nm, t, y, 1 + x, [], []⟩ rfl rfl, New.nil, by simp, hB, fine_new hn ht hy hx⟩
theorem Went.sets {W w w' : World} {C g : Nat} (h : Went W w w' C) (hg : w.heap.size ≤ g) (vs : List Value) (o : Nat) : Went W w (H.sets w' g o vs) C := h.keep (E := [g]) (sets_keep g vs o w') (by simpa using hg)
theorem sz_alloc (w : World) (o : Obj) : (w.alloc o).heap.size = w.heap.size + 1 := by simp
theorem sz_drew (w : World) : w.drew.heap.size = w.heap.size := rfl
theorem newOf {wq : World} {cs cs' : Array Value} {t t' : TypeId} {q : Nat} {X : Prop} (h : Loc (wq.alloc (.cells cs t)) q cs' t' ∧ X) : Loc (wq.alloc (.cells cs t)) wq.heap.size cs t := Loc.new wq cs t
theorem lit3 {w : World} {g q n : Nat} {s0 s1 s2 : ByteArray} {e : TypeId} {P : ByteArray → Prop} (h : Loc w q #[.string s0, .string s1, .string s2] e) (hg : g = q) (hn : n = 3) (h0 : P s0) (h1 : P s1) (h2 : P s2) : ∀ k, k < n → ∃ s : ByteArray, w.cell? ⟨g, k, none⟩ = some (.string s) ∧ P s := by
  subst hn hg
  intro k hk
  rw [h.cells k]
  match k, hk with
  | 0, _ => exact ⟨s0, rfl, h0⟩
  | 1, _ => exact ⟨s1, rfl, h1⟩
  | 2, _ => exact ⟨s2, rfl, h2⟩
theorem fineNew {w : World} {B : Nat} {z0 z1 z2 z3 z4 z5 z6 a0 a1 a2 a3 a4 a5 a6 : Value} {T : TypeId} (hl : Loc w B #[z0, z1, z2, z3, z4, z5, z6] T) : Loc (sets w B 0 [a0, a1, a2, a3, a4, a5, a6]) B #[a0, a1, a2, a3, a4, a5, a6] T := by
  have h := sets_loc [a0, a1, a2, a3, a4, a5, a6] 0 w _ hl
  rw [putAll7] at h
  exact h
set_option maxHeartbeats 2000000 in
set_option maxRecDepth 100000 in
theorem l06Box_calls (W w : World) (C : Nat) (hc : HasCur W w C) :
    Calls Try.prog 111 #[.pointer (some ⟨C, 0, none⟩)] w fun e w' => ∃ (b : Box) (mv gv : Value) (D : List Nat), e = .returned (.agg #[.int .i64 b.g, .string b.nm, .int .i64 b.t, .int .i64 b.b, .int .i64 b.nx, mv, gv]) ∧ Rests D w' (rdParts b mv gv) ∧ New w w' D ∧ fineBox b ∧ Went W w w' C := by
  have HL := Aside.mk hc.lt
  have HW := Aside.mk (Went.refl hc)
  clear hc
  obtain ⟨wz, hwz⟩ : ∃ wz : World, wz.heap.size = w.heap.size + 1 := ⟨w.alloc (.cells #[] 0), by simp⟩
  have HZW := Aside.mk hwz
  clear hwz
  go_enter Try.func111, Try.ntmps111
  go_wp2_with (fail)
  replace HW := Aside.mk (HW.out.alloc (.cells #[.int .i64 0, .string ⟨#[]⟩, .int .i64 0, .int .i64 0, .int .i64 0, .slice none 0 0, .slice none 0 0] 32))
  have L2 := Aside.mk (Loc.new w #[.int .i64 0, .string ⟨#[]⟩, .int .i64 0, .int .i64 0, .int .i64 0, .slice none 0 0, .slice none 0 0] 32)
  refine (l03Stamp_calls W _ C HW.out.1).mono ?_
  rintro e w1 ⟨t, y, rfl, ht0, ht1, hy0, hy1, hw⟩
  have HTY : Aside ((0 ≤ t ∧ t < 12) ∧ (1 ≤ y ∧ y ≤ 2)) := ⟨⟨ht0, ht1⟩, ⟨hy0, hy1⟩⟩
  replace L2 := Aside.mk (L2.out.went hw (by have := HL.out; omega))
  replace HW := Aside.mk (HW.out.trans hw)
  clear hw ht0 ht1 hy0 hy1
  have HQ1 : Aside (w.heap.size < w1.heap.size) := ⟨L2.out.lt⟩
  replace HW := Aside.mk (HW.out.alloc (.cells #[.int .i64 t, .int .i64 y] 29))
  replace L2 := Aside.mk (L2.out.alloc (.cells #[.int .i64 t, .int .i64 y] 29))
  have L3 := Aside.mk (Loc.new w1 #[.int .i64 t, .int .i64 y] 29)
  go_wp2_with (fail)
  go_cut [4] (fun v4 wc => ∃ (B : Nat) (nm : ByteArray) (x : Int), v4 = .pointer (some ⟨B, 0, none⟩) ∧ Aside (HasFine wz wc B [] ⟨7, nm, t, y, 1 + x, [], []⟩) ∧ Aside (Loc wc w.heap.size #[.int .i64 0, .string ⟨#[]⟩, .int .i64 0, .int .i64 0, .int .i64 0, .slice none 0 0, .slice none 0 0] 32) ∧ Aside (Went W w wc C))
  case first =>
    refine zBegin (S := (fun w' => Loc w' w.heap.size #[.int .i64 0, .string ⟨#[]⟩, .int .i64 0, .int .i64 0, .int .i64 0, .slice none 0 0, .slice none 0 0] 32 ∧ Loc w' w1.heap.size #[.int .i64 t, .int .i64 y] 29 ∧ Aside (Went W w w' C))) (z := 9) (by kernel_rfl) (by exact ⟨L2.out.drew', L3.out.drew', ⟨HW.out.drew⟩⟩) (fun hHeld => ?_)
    refine zT 0 10 hHeld ?_
    refine zT 3 13 hHeld ?_
    refine zT 4 14 hHeld ?_
    refine zReady (rs := [1, 8]) (by kernel_rfl) (by simp) ?_
    refine zOne (by decide) rfl (fun K hK => ?_) ?_
    have HGL := Aside.mk (hHeld.2.2.out.1.lt); go_simp
    refine hK.out _ _ (by exact ⟨hHeld.1.alloc _, hHeld.2.1.alloc _, ⟨hHeld.2.2.out.alloc _⟩⟩) (fun hHeld => ?_)
    clear hK K
    (try simp only [Act.put, List.setIfInBounds_toArray, List.set_cons_zero, List.set_cons_succ])
    have LL := Aside.mk (newOf hHeld); (try (replace LB := Aside.mk (LB.out.alloc (.cells #[.string ⟨#[105, 110, 98, 111, 120]⟩, .string ⟨#[119, 111, 114, 107]⟩, .string ⟨#[111, 108, 100, 57]⟩] 9))))
    refine zReady (rs := [2, 8]) (by kernel_rfl) (by simp) ?_
    refine zOne (by decide) rfl (fun K hK => ?_) ?_
    go_simp
    refine (l01PickP_calls NameP W _ C _ 3 3 hHeld.2.2.out.1 (by have := HL.out; have := HQ1.out; omega) (by decide) (by decide) (lit3 LL.out (by simp) rfl name0 name1 name2)).mono ?_; rintro e w2 ⟨nm, rfl, hnm, hw⟩
    refine hK.out _ _ (by exact ⟨hHeld.1.went hw (by have := HL.out; omega), hHeld.2.1.went hw (by have := HL.out; have := HQ1.out; omega), ⟨hHeld.2.2.out.trans hw⟩⟩) (fun hHeld => ?_)
    clear hK K
    (try simp only [Act.put, List.setIfInBounds_toArray, List.set_cons_zero, List.set_cons_succ])
    have HNM := Aside.mk hnm; (try (first | (replace LB := Aside.mk (LB.out.went hw (by have h1_ := HGB.out; have h2_ := HL.out; have h3_ := HQ1.out; (try simp only [sz_alloc, sz_drew] at h1_); omega))) | (replace LB := Aside.mk (LB.out.drew'.went hw (by have h1_ := HGB.out; have h2_ := HL.out; have h3_ := HQ1.out; (try simp only [sz_alloc, sz_drew] at h1_); omega))))); clear hw hnm LL HGL
    refine zReady (rs := [5, 8]) (by kernel_rfl) (by simp) ?_
    refine zOne (by decide) rfl (fun K hK => ?_) ?_
    go_simp
    refine (l01Below_calls W _ C _ hHeld.2.2.out.1).mono ?_; rintro e w3 ⟨x, rfl, hx0, _, hx1, hw⟩
    refine hK.out _ _ (by exact ⟨hHeld.1.went hw (by have := HL.out; omega), hHeld.2.1.went hw (by have := HL.out; have := HQ1.out; omega), ⟨hHeld.2.2.out.trans hw⟩⟩) (fun hHeld => ?_)
    clear hK K
    (try simp only [Act.put, List.setIfInBounds_toArray, List.set_cons_zero, List.set_cons_succ])
    have HX := Aside.mk (And.intro hx0 (hx1 (by decide))); have e1 : IntKind.i64.wrap (1 + x) = 1 + x := (by rw [IntKind.wrap_i64]; have := HX.out; omega); (try (first | (replace LB := Aside.mk (LB.out.went hw (by have h1_ := HGB.out; have h2_ := HL.out; have h3_ := HQ1.out; (try simp only [sz_alloc, sz_drew] at h1_); omega))) | (replace LB := Aside.mk (LB.out.drew'.went hw (by have h1_ := HGB.out; have h2_ := HL.out; have h3_ := HQ1.out; (try simp only [sz_alloc, sz_drew] at h1_); omega))))); clear hw hx0 hx1
    refine zT 6 16 hHeld ?_
    refine zT 7 17 hHeld ?_
    refine zReady (rs := [8]) (by kernel_rfl) (by simp) ?_
    refine zOne (by decide) rfl (fun K hK => ?_) zNil
    have HGB := Aside.mk (And.intro (hHeld.2.2.out.1.lt) (And.intro hHeld.2.2.out.size hHeld.2.1.lt)); have HP8 := Aside.mk hHeld; go_simp
    refine hK.out _ _ (by exact ⟨hHeld.1.alloc _, hHeld.2.1.alloc _, ⟨hHeld.2.2.out.alloc _⟩⟩) (fun hHeld => ?_)
    clear hK K
    (try simp only [Act.put, List.setIfInBounds_toArray, List.set_cons_zero, List.set_cons_succ])
    have LB0 := newOf hHeld; (try simp only [sz_alloc, sz_drew] at LB0); have LB := Aside.mk LB0; clear LB0; (try (replace LL := Aside.mk (LL.out.alloc (.cells #[.int .i64 0, .string ⟨#[]⟩, .int .i64 0, .int .i64 0, .int .i64 0, .slice none 0 0, .slice none 0 0] 32))))
    refine zReady (rs := [9]) (by kernel_rfl) (by simp) ?_
    refine zLast rfl (fun K hK => ?_) zNil
    have lB := LB.out.cells; have qB := LB.out.lt; have fB := LB.out.free; go_simp
    refine hK.out _ _ ?_
    clear hK K
    (try simp only [Act.put, List.setIfInBounds_toArray, List.set_cons_zero, List.set_cons_succ])
    refine zDone (by kernel_rfl) ?_ _
    rotate_left
    refine zOne (by decide) rfl (fun K hK => ?_) zNil
    have HGB := Aside.mk (And.intro (hHeld.2.2.out.1.lt) (And.intro hHeld.2.2.out.size hHeld.2.1.lt)); have HP8 := Aside.mk hHeld; go_simp
    refine hK.out _ _ (by exact ⟨hHeld.1.alloc _, hHeld.2.1.alloc _, ⟨hHeld.2.2.out.alloc _⟩⟩) (fun hHeld => ?_)
    clear hK K
    (try simp only [Act.put, List.setIfInBounds_toArray, List.set_cons_zero, List.set_cons_succ])
    have LB0 := newOf hHeld; (try simp only [sz_alloc, sz_drew] at LB0); have LB := Aside.mk LB0; clear LB0; (try (replace LL := Aside.mk (LL.out.alloc (.cells #[.int .i64 0, .string ⟨#[]⟩, .int .i64 0, .int .i64 0, .int .i64 0, .slice none 0 0, .slice none 0 0] 32))))
    refine zReady (rs := [5]) (by kernel_rfl) (by simp) ?_
    refine zOne (by decide) rfl (fun K hK => ?_) zNil
    go_simp
    refine (l01Below_calls W _ C _ hHeld.2.2.out.1).mono ?_; rintro e w3 ⟨x, rfl, hx0, _, hx1, hw⟩
    refine hK.out _ _ (by exact ⟨hHeld.1.went hw (by have := HL.out; omega), hHeld.2.1.went hw (by have := HL.out; have := HQ1.out; omega), ⟨hHeld.2.2.out.trans hw⟩⟩) (fun hHeld => ?_)
    clear hK K
    (try simp only [Act.put, List.setIfInBounds_toArray, List.set_cons_zero, List.set_cons_succ])
    have HX := Aside.mk (And.intro hx0 (hx1 (by decide))); have e1 : IntKind.i64.wrap (1 + x) = 1 + x := (by rw [IntKind.wrap_i64]; have := HX.out; omega); (try (first | (replace LB := Aside.mk (LB.out.went hw (by have h1_ := HGB.out; have h2_ := HL.out; have h3_ := HQ1.out; (try simp only [sz_alloc, sz_drew] at h1_); omega))) | (replace LB := Aside.mk (LB.out.drew'.went hw (by have h1_ := HGB.out; have h2_ := HL.out; have h3_ := HQ1.out; (try simp only [sz_alloc, sz_drew] at h1_); omega))))); clear hw hx0 hx1
    refine zT 6 16 hHeld ?_
    refine zT 7 17 hHeld ?_
    refine zReady (rs := [9]) (by kernel_rfl) (by simp) ?_
    refine zLast rfl (fun K hK => ?_) zNil
    have lB := LB.out.cells; have qB := LB.out.lt; have fB := LB.out.free; go_simp
    refine hK.out _ _ ?_
    clear hK K
    (try simp only [Act.put, List.setIfInBounds_toArray, List.set_cons_zero, List.set_cons_succ])
    refine zDone (by kernel_rfl) ?_ _
    rotate_left
    refine zOne (by decide) rfl (fun K hK => ?_) zNil
    have HGB := Aside.mk (And.intro (hHeld.2.2.out.1.lt) (And.intro hHeld.2.2.out.size hHeld.2.1.lt)); have HP8 := Aside.mk hHeld; go_simp
    refine hK.out _ _ (by exact ⟨hHeld.1.alloc _, hHeld.2.1.alloc _, ⟨hHeld.2.2.out.alloc _⟩⟩) (fun hHeld => ?_)
    clear hK K
    (try simp only [Act.put, List.setIfInBounds_toArray, List.set_cons_zero, List.set_cons_succ])
    have LB0 := newOf hHeld; (try simp only [sz_alloc, sz_drew] at LB0); have LB := Aside.mk LB0; clear LB0; (try (replace LL := Aside.mk (LL.out.alloc (.cells #[.int .i64 0, .string ⟨#[]⟩, .int .i64 0, .int .i64 0, .int .i64 0, .slice none 0 0, .slice none 0 0] 32))))
    refine zReady (rs := [2]) (by kernel_rfl) (by simp) ?_
    refine zOne (by decide) rfl (fun K hK => ?_) zNil
    go_simp
    refine (l01PickP_calls NameP W _ C _ 3 3 hHeld.2.2.out.1 (by have := HL.out; have := HQ1.out; omega) (by decide) (by decide) (lit3 LL.out (by simp) rfl name0 name1 name2)).mono ?_; rintro e w2 ⟨nm, rfl, hnm, hw⟩
    refine hK.out _ _ (by exact ⟨hHeld.1.went hw (by have := HL.out; omega), hHeld.2.1.went hw (by have := HL.out; have := HQ1.out; omega), ⟨hHeld.2.2.out.trans hw⟩⟩) (fun hHeld => ?_)
    clear hK K
    (try simp only [Act.put, List.setIfInBounds_toArray, List.set_cons_zero, List.set_cons_succ])
    have HNM := Aside.mk hnm; (try (first | (replace LB := Aside.mk (LB.out.went hw (by have h1_ := HGB.out; have h2_ := HL.out; have h3_ := HQ1.out; (try simp only [sz_alloc, sz_drew] at h1_); omega))) | (replace LB := Aside.mk (LB.out.drew'.went hw (by have h1_ := HGB.out; have h2_ := HL.out; have h3_ := HQ1.out; (try simp only [sz_alloc, sz_drew] at h1_); omega))))); clear hw hnm LL HGL
    refine zReady (rs := [5]) (by kernel_rfl) (by simp) ?_
    refine zOne (by decide) rfl (fun K hK => ?_) zNil
    go_simp
    refine (l01Below_calls W _ C _ hHeld.2.2.out.1).mono ?_; rintro e w3 ⟨x, rfl, hx0, _, hx1, hw⟩
    refine hK.out _ _ (by exact ⟨hHeld.1.went hw (by have := HL.out; omega), hHeld.2.1.went hw (by have := HL.out; have := HQ1.out; omega), ⟨hHeld.2.2.out.trans hw⟩⟩) (fun hHeld => ?_)
    clear hK K
    (try simp only [Act.put, List.setIfInBounds_toArray, List.set_cons_zero, List.set_cons_succ])
    have HX := Aside.mk (And.intro hx0 (hx1 (by decide))); have e1 : IntKind.i64.wrap (1 + x) = 1 + x := (by rw [IntKind.wrap_i64]; have := HX.out; omega); (try (first | (replace LB := Aside.mk (LB.out.went hw (by have h1_ := HGB.out; have h2_ := HL.out; have h3_ := HQ1.out; (try simp only [sz_alloc, sz_drew] at h1_); omega))) | (replace LB := Aside.mk (LB.out.drew'.went hw (by have h1_ := HGB.out; have h2_ := HL.out; have h3_ := HQ1.out; (try simp only [sz_alloc, sz_drew] at h1_); omega))))); clear hw hx0 hx1
    refine zT 6 16 hHeld ?_
    refine zT 7 17 hHeld ?_
    refine zReady (rs := [9]) (by kernel_rfl) (by simp) ?_
    refine zLast rfl (fun K hK => ?_) zNil
    have lB := LB.out.cells; have qB := LB.out.lt; have fB := LB.out.free; go_simp
    refine hK.out _ _ ?_
    clear hK K
    (try simp only [Act.put, List.setIfInBounds_toArray, List.set_cons_zero, List.set_cons_succ])
    refine zDone (by kernel_rfl) ?_ _
    rotate_left
    refine zOne (by decide) rfl (fun K hK => ?_) zNil
    have HGB := Aside.mk (And.intro (hHeld.2.2.out.1.lt) (And.intro hHeld.2.2.out.size hHeld.2.1.lt)); have HP8 := Aside.mk hHeld; go_simp
    refine hK.out _ _ (by exact ⟨hHeld.1.alloc _, hHeld.2.1.alloc _, ⟨hHeld.2.2.out.alloc _⟩⟩) (fun hHeld => ?_)
    clear hK K
    (try simp only [Act.put, List.setIfInBounds_toArray, List.set_cons_zero, List.set_cons_succ])
    have LB0 := newOf hHeld; (try simp only [sz_alloc, sz_drew] at LB0); have LB := Aside.mk LB0; clear LB0; (try (replace LL := Aside.mk (LL.out.alloc (.cells #[.int .i64 0, .string ⟨#[]⟩, .int .i64 0, .int .i64 0, .int .i64 0, .slice none 0 0, .slice none 0 0] 32))))
    refine zReady (rs := [1]) (by kernel_rfl) (by simp) ?_
    refine zOne (by decide) rfl (fun K hK => ?_) zNil
    have HGL := Aside.mk (hHeld.2.2.out.1.lt); go_simp
    refine hK.out _ _ (by exact ⟨hHeld.1.alloc _, hHeld.2.1.alloc _, ⟨hHeld.2.2.out.alloc _⟩⟩) (fun hHeld => ?_)
    clear hK K
    (try simp only [Act.put, List.setIfInBounds_toArray, List.set_cons_zero, List.set_cons_succ])
    have LL := Aside.mk (newOf hHeld); (try (replace LB := Aside.mk (LB.out.alloc (.cells #[.string ⟨#[105, 110, 98, 111, 120]⟩, .string ⟨#[119, 111, 114, 107]⟩, .string ⟨#[111, 108, 100, 57]⟩] 9))))
    refine zReady (rs := [2]) (by kernel_rfl) (by simp) ?_
    refine zOne (by decide) rfl (fun K hK => ?_) zNil
    go_simp
    refine (l01PickP_calls NameP W _ C _ 3 3 hHeld.2.2.out.1 (by have := HL.out; have := HQ1.out; omega) (by decide) (by decide) (lit3 LL.out (by simp) rfl name0 name1 name2)).mono ?_; rintro e w2 ⟨nm, rfl, hnm, hw⟩
    refine hK.out _ _ (by exact ⟨hHeld.1.went hw (by have := HL.out; omega), hHeld.2.1.went hw (by have := HL.out; have := HQ1.out; omega), ⟨hHeld.2.2.out.trans hw⟩⟩) (fun hHeld => ?_)
    clear hK K
    (try simp only [Act.put, List.setIfInBounds_toArray, List.set_cons_zero, List.set_cons_succ])
    have HNM := Aside.mk hnm; (try (first | (replace LB := Aside.mk (LB.out.went hw (by have h1_ := HGB.out; have h2_ := HL.out; have h3_ := HQ1.out; (try simp only [sz_alloc, sz_drew] at h1_); omega))) | (replace LB := Aside.mk (LB.out.drew'.went hw (by have h1_ := HGB.out; have h2_ := HL.out; have h3_ := HQ1.out; (try simp only [sz_alloc, sz_drew] at h1_); omega))))); clear hw hnm LL HGL
    refine zReady (rs := [5]) (by kernel_rfl) (by simp) ?_
    refine zOne (by decide) rfl (fun K hK => ?_) zNil
    go_simp
    refine (l01Below_calls W _ C _ hHeld.2.2.out.1).mono ?_; rintro e w3 ⟨x, rfl, hx0, _, hx1, hw⟩
    refine hK.out _ _ (by exact ⟨hHeld.1.went hw (by have := HL.out; omega), hHeld.2.1.went hw (by have := HL.out; have := HQ1.out; omega), ⟨hHeld.2.2.out.trans hw⟩⟩) (fun hHeld => ?_)
    clear hK K
    (try simp only [Act.put, List.setIfInBounds_toArray, List.set_cons_zero, List.set_cons_succ])
    have HX := Aside.mk (And.intro hx0 (hx1 (by decide))); have e1 : IntKind.i64.wrap (1 + x) = 1 + x := (by rw [IntKind.wrap_i64]; have := HX.out; omega); (try (first | (replace LB := Aside.mk (LB.out.went hw (by have h1_ := HGB.out; have h2_ := HL.out; have h3_ := HQ1.out; (try simp only [sz_alloc, sz_drew] at h1_); omega))) | (replace LB := Aside.mk (LB.out.drew'.went hw (by have h1_ := HGB.out; have h2_ := HL.out; have h3_ := HQ1.out; (try simp only [sz_alloc, sz_drew] at h1_); omega))))); clear hw hx0 hx1
    refine zT 6 16 hHeld ?_
    refine zT 7 17 hHeld ?_
    refine zReady (rs := [9]) (by kernel_rfl) (by simp) ?_
    refine zLast rfl (fun K hK => ?_) zNil
    have lB := LB.out.cells; have qB := LB.out.lt; have fB := LB.out.free; go_simp
    refine hK.out _ _ ?_
    clear hK K
    (try simp only [Act.put, List.setIfInBounds_toArray, List.set_cons_zero, List.set_cons_succ])
    refine zDone (by kernel_rfl) ?_ _
    rotate_left
    all_goals (go_wp2; go_meet)
    all_goals (first
      | (rw [setsc7]; refine ⟨_, _, _, rfl, ⟨fine_made (fineNew LB.out) ?_ HNM.out HTY.out.1 HTY.out.2 HX.out⟩, ⟨hHeld.1.sets2 ?_ _⟩, ⟨hHeld.2.2.out.sets ?_ _ _⟩⟩ <;> (have h1_ := HGB.out; have h2_ := HQ1.out; have h4_ := HZW.out; (try simp only [sz_alloc, sz_drew] at h1_); omega))
      | exact ⟨_, _, _, rfl, ⟨fine_made (Loc.new _ _ _) (by have h1_ := HGB.out; have h2_ := HQ1.out; have h4_ := HZW.out; omega) HNM.out HTY.out.1 HTY.out.2 HX.out⟩, ⟨HP8.out.1.alloc _⟩, ⟨HP8.out.2.2.out.alloc _⟩⟩)
  case rest =>
    obtain ⟨B, nm, x, rfl, HF0, L20, HW0⟩ := hcut
    clear L2 L3 HW
    have HBG : Aside (wz.heap.size ≤ B) := ⟨by obtain ⟨_, _, _, _, _, _, _, _, h5, _⟩ := HF0.out; exact h5⟩
    go_wp2
    go_loopw [5] (fun v5 wr => ∃ (i : Nat) (b : Box) (D : List Nat), v5 = .int .i64 i ∧ i ≤ 12 ∧ Aside (HasFine wz wr B D b) ∧ Aside (Loc wr w.heap.size #[.int .i64 0, .string ⟨#[]⟩, .int .i64 0, .int .i64 0, .int .i64 0, .slice none 0 0, .slice none 0 0] 32) ∧ Aside (Went W w wr C)) (fun v5 _ => 12 - (intOf v5).toNat)
    case atStart => exact ⟨0, _, _, rfl, by omega, HF0, L20, HW0⟩
    case round =>
      clear HF0 L20 HW0
      obtain ⟨i, b, D, rfl, hi, HF, L2, HW⟩ := hrel
      have HQ2 : Aside (w.heap.size < wr.heap.size) := ⟨L2.out.lt⟩
      go_wp2_with (fail)
      refine (l01Below_calls W _ C _ HW.out.1).mono ?_
      rintro e w2 ⟨k, rfl, hk0, _, hk1, hw⟩
      replace hk1 := hk1 (by decide)
      replace HF := Aside.mk (HF.out.went hw (by have := HBG.out; have := HZW.out; have := HL.out; omega) (by have := HZW.out; have := HL.out; omega))
      replace L2 := Aside.mk (L2.out.went hw (by have := HL.out; omega))
      replace HW := Aside.mk (HW.out.trans hw)
      clear hw hk0
      by_cases hlt : (i : Int) < k
      · go_wp2_with (fail)
        refine (l01Below_calls W _ C _ HW.out.1).mono ?_
        rintro e w3 ⟨gx, rfl, hg0, _, hg1, hw⟩
        have HGX : Aside (10 ≤ 10 + gx ∧ 10 + gx ≤ 18) := ⟨by have := hg1 (by decide); omega⟩
        have e2 : IntKind.i64.wrap (10 + gx) = 10 + gx := by rw [IntKind.wrap_i64]; have := HGX.out; omega
        replace HF := Aside.mk (HF.out.went hw (by have := HBG.out; have := HZW.out; have := HL.out; omega) (by have := HZW.out; have := HL.out; omega))
        replace L2 := Aside.mk (L2.out.went hw (by have := HL.out; omega))
        replace HW := Aside.mk (HW.out.trans hw)
        clear hw hg0 hg1
        go_wp2_with (fail)
        refine (l03Stamp_calls W _ C HW.out.1).mono ?_
        rintro e w4 ⟨t2, y2, rfl, ht0, ht1, hy0, hy1, hw⟩
        have HT2 : Aside ((0 ≤ t2 ∧ t2 < 12) ∧ (1 ≤ y2 ∧ y2 ≤ 2)) := ⟨⟨ht0, ht1⟩, ⟨hy0, hy1⟩⟩
        have HQ4 : Aside (w.heap.size < w4.heap.size) := ⟨by have h3 := hw.size; have h4 := L2.out.lt; omega⟩
        replace HF := Aside.mk ((HF.out.went hw (by have := HBG.out; have := HZW.out; have := HL.out; omega) (by have := HZW.out; have := HL.out; omega)).below (below_alloc (Below.refl _ w4) (.cells #[.int .i64 t2, .int .i64 y2] 29)))
        replace L2 := Aside.mk ((L2.out.went hw (by have := HL.out; omega)).alloc (.cells #[.int .i64 t2, .int .i64 y2] 29))
        have L7 := Aside.mk (Loc.new w4 #[.int .i64 t2, .int .i64 y2] 29)
        replace HW := Aside.mk ((HW.out.trans hw).alloc (.cells #[.int .i64 t2, .int .i64 y2] 29))
        clear hw ht0 ht1 hy0 hy1
        go_wp2_with (fail)
        refine (l01Below_calls W _ C _ HW.out.1).mono ?_
        rintro e w5 ⟨q, rfl, hq0, _, hq1, hw⟩
        replace hq1 := hq1 (by decide)
        replace HF := Aside.mk (HF.out.went hw (by have := HBG.out; have := HZW.out; have := HL.out; omega) (by have := HZW.out; have := HL.out; omega))
        replace L2 := Aside.mk (L2.out.went hw (by have := HL.out; omega))
        replace L7 := Aside.mk (L7.out.went hw (by have := HQ4.out; have := HL.out; omega))
        replace HW := Aside.mk (HW.out.trans hw)
        clear hw
        have hi2 : (i : Int) + 1 ≤ 12 := by omega
        obtain ⟨Am, cm, Ag, cg, hl, hr, hn, hBD, hBg, hf⟩ := HF.out
        have LB := Aside.mk hl
        have HH : Aside (Hold W wz w C D (rdParts b (.slice Am b.ml.length cm) (.slice Ag b.go.length cg)) #[.int .i64 0, .string ⟨#[]⟩, .int .i64 0, .int .i64 0, .int .i64 0, .slice none 0 0, .slice none 0 0] 32 w5) := ⟨⟨HW.out, hr, hn, L2.out⟩⟩
        have HFN := Aside.mk hf
        clear HF hl hr hn hBD hBg hf
        rcases (show q = 0 ∨ q = 1 ∨ q = 2 ∨ q = 3 ∨ q = 4 by omega) with rfl | rfl | rfl | rfl | rfl
        · go_wp2_with (fail)
          refine yBegin (S := (fun w' => Loc w' B #[.int .i64 b.g, .string b.nm, .int .i64 b.t, .int .i64 b.b, .int .i64 b.nx, .slice Am b.ml.length cm, .slice Ag b.go.length cg] 32 ∧ Loc w' w4.heap.size #[.int .i64 t2, .int .i64 y2] 29 ∧ Aside (Hold W wz w C D (rdParts b (.slice Am b.ml.length cm) (.slice Ag b.go.length cg)) #[.int .i64 0, .string ⟨#[]⟩, .int .i64 0, .int .i64 0, .int .i64 0, .slice none 0 0, .slice none 0 0] 32 w'))) (z := 11) (by kernel_rfl) (by exact ⟨LB.out.drew', L7.out.drew', ⟨Hold.drew HH.out⟩⟩) (fun hHeld => ?_)
          refine yT 0 42 hHeld ?_
          refine yT 1 43 hHeld ?_
          refine yT 2 44 hHeld ?_
          refine yT 4 46 hHeld ?_
          refine yT 6 48 hHeld ?_
          refine yReady (rs := [3]) (by kernel_rfl) (by simp) ?_
          refine yOne rfl (fun K hK => ?_) yNil
          go_simp
          refine (l01Below_calls W _ C _ hHeld.2.2.out.1.1).mono ?_; rintro e w6 ⟨f, rfl, _, _, _, hw⟩
          refine hK.out _ _ (by exact ⟨hHeld.1.went hw (by have := HBG.out; have := HZW.out; have := HL.out; omega), hHeld.2.1.went hw (by have := HQ4.out; have := HL.out; omega), ⟨Hold.went hHeld.2.2.out hw HL.out (by have := HZW.out; omega)⟩⟩) (fun hHeld => ?_)
          clear hK K
          (try simp only [Act.put, List.setIfInBounds_toArray, List.set_cons_zero, List.set_cons_succ])
          clear hw
          refine yReady (rs := [5]) (by kernel_rfl) (by simp) ?_
          refine yOne rfl (fun K hK => ?_) yNil
          go_simp
          refine (l05Text_calls W _ C hHeld.2.2.out.1.1).mono ?_; rintro e w7 ⟨s, rfl, hs, hw⟩
          refine hK.out _ _ (by exact ⟨hHeld.1.went hw (by have := HBG.out; have := HZW.out; have := HL.out; omega), hHeld.2.1.went hw (by have := HQ4.out; have := HL.out; omega), ⟨Hold.went hHeld.2.2.out hw HL.out (by have := HZW.out; omega)⟩⟩) (fun hHeld => ?_)
          clear hK K
          (try simp only [Act.put, List.setIfInBounds_toArray, List.set_cons_zero, List.set_cons_succ])
          have HS := Aside.mk hs; clear hw hs
          refine yReady (rs := [7]) (by kernel_rfl) (by simp) ?_
          refine yOne rfl (fun K hK => ?_) yNil
          go_simp
          have hHp := hHeld; refine (addFine _ _ _ b _ _ _ t2 y2 HFN.out hHeld.2.2.out.2.1.now HS.out HT2.out.1 HT2.out.2).mono ?_; rintro e w8 ⟨rb, ok, An, cn, Ah, ch, D1, D2, rfl, hom, hog, hnw, hfb, hb⟩
          refine hK.out _ _ (by exact ⟨hHeld.1.below hb, hHeld.2.1.below hb, ⟨Hold.below hHeld.2.2.out hb⟩⟩) (fun hHeld => ?_)
          clear hK K
          (try simp only [Act.put, List.setIfInBounds_toArray, List.set_cons_zero, List.set_cons_succ])
          have HOM := Aside.mk hom; have HOG := Aside.mk hog; have HNW := Aside.mk (hnw.from (w0 := wz) (by have := hHp.2.1.lt; have := HQ4.out; have := HZW.out; omega)); have HBN : Aside (B ∉ D1 ++ D2) := ⟨fun hx => by have h1 := (hnw.2 _ hx).1; have h2 := hHp.1.lt; omega⟩; have HFB := Aside.mk hfb; clear hom hog hnw hfb hb
          refine yT 8 41 hHeld ?_
          refine yT 9 50 hHeld ?_
          refine yP 10 51 hHeld ?_
          refine yReady (rs := [11]) (by kernel_rfl) (by simp) ?_
          refine yLast (Or.inl rfl) rfl (fun K hK => ?_) yNil
          have lB := hHeld.1.cells; have qB := hHeld.1.lt; have fB := hHeld.1.free; go_simp
          refine hK.out _ _ ?_
          clear hK K
          (try simp only [Act.put, List.setIfInBounds_toArray, List.set_cons_zero, List.set_cons_succ])
          refine yDone (by kernel_rfl) ?_ _
          go_wp2
          go_roundw
          case rel => rw [setsc7]; exact ⟨i + 1, rb, D1 ++ D2, by go_num, by omega, ⟨HasFine.stored (b := rb) (Am := An) (cm := cn) (Ag := Ah) (cg := ch) (D1 := D1) (D2 := D2) HOM.out HOG.out HNW.out hHeld.1 HBN.out HBG.out HFB.out⟩, ⟨hHeld.2.2.out.2.2.2.sets2 (by have := HBG.out; have := HZW.out; omega) _⟩, ⟨hHeld.2.2.out.1.sets (by have := HBG.out; have := HZW.out; omega) _ _⟩⟩
          case measure => simp [intOf]; omega
        · go_wp2_with (fail)
          refine yBegin (S := (fun w' => Loc w' B #[.int .i64 b.g, .string b.nm, .int .i64 b.t, .int .i64 b.b, .int .i64 b.nx, .slice Am b.ml.length cm, .slice Ag b.go.length cg] 32 ∧ Loc w' w4.heap.size #[.int .i64 t2, .int .i64 y2] 29 ∧ Aside (Hold W wz w C D (rdParts b (.slice Am b.ml.length cm) (.slice Ag b.go.length cg)) #[.int .i64 0, .string ⟨#[]⟩, .int .i64 0, .int .i64 0, .int .i64 0, .slice none 0 0, .slice none 0 0] 32 w'))) (z := 11) (by kernel_rfl) (by exact ⟨LB.out.drew', L7.out.drew', ⟨Hold.drew HH.out⟩⟩) (fun hHeld => ?_)
          refine yT 0 42 hHeld ?_
          refine yT 1 43 hHeld ?_
          refine yT 2 44 hHeld ?_
          refine yT 4 46 hHeld ?_
          refine yT 6 48 hHeld ?_
          refine yReady (rs := [3]) (by kernel_rfl) (by simp) ?_
          refine yOne rfl (fun K hK => ?_) yNil
          go_simp
          refine (l01Below_calls W _ C _ hHeld.2.2.out.1.1).mono ?_; rintro e w6 ⟨f, rfl, _, _, _, hw⟩
          refine hK.out _ _ (by exact ⟨hHeld.1.went hw (by have := HBG.out; have := HZW.out; have := HL.out; omega), hHeld.2.1.went hw (by have := HQ4.out; have := HL.out; omega), ⟨Hold.went hHeld.2.2.out hw HL.out (by have := HZW.out; omega)⟩⟩) (fun hHeld => ?_)
          clear hK K
          (try simp only [Act.put, List.setIfInBounds_toArray, List.set_cons_zero, List.set_cons_succ])
          clear hw
          refine yReady (rs := [5]) (by kernel_rfl) (by simp) ?_
          refine yOne rfl (fun K hK => ?_) yNil
          go_simp
          refine (l05Text_calls W _ C hHeld.2.2.out.1.1).mono ?_; rintro e w7 ⟨s, rfl, hs, hw⟩
          refine hK.out _ _ (by exact ⟨hHeld.1.went hw (by have := HBG.out; have := HZW.out; have := HL.out; omega), hHeld.2.1.went hw (by have := HQ4.out; have := HL.out; omega), ⟨Hold.went hHeld.2.2.out hw HL.out (by have := HZW.out; omega)⟩⟩) (fun hHeld => ?_)
          clear hK K
          (try simp only [Act.put, List.setIfInBounds_toArray, List.set_cons_zero, List.set_cons_succ])
          have HS := Aside.mk hs; clear hw hs
          refine yReady (rs := [7]) (by kernel_rfl) (by simp) ?_
          refine yOne rfl (fun K hK => ?_) yNil
          go_simp
          have hHp := hHeld; refine (addFine _ _ _ b _ _ _ t2 y2 HFN.out hHeld.2.2.out.2.1.now HS.out HT2.out.1 HT2.out.2).mono ?_; rintro e w8 ⟨rb, ok, An, cn, Ah, ch, D1, D2, rfl, hom, hog, hnw, hfb, hb⟩
          refine hK.out _ _ (by exact ⟨hHeld.1.below hb, hHeld.2.1.below hb, ⟨Hold.below hHeld.2.2.out hb⟩⟩) (fun hHeld => ?_)
          clear hK K
          (try simp only [Act.put, List.setIfInBounds_toArray, List.set_cons_zero, List.set_cons_succ])
          have HOM := Aside.mk hom; have HOG := Aside.mk hog; have HNW := Aside.mk (hnw.from (w0 := wz) (by have := hHp.2.1.lt; have := HQ4.out; have := HZW.out; omega)); have HBN : Aside (B ∉ D1 ++ D2) := ⟨fun hx => by have h1 := (hnw.2 _ hx).1; have h2 := hHp.1.lt; omega⟩; have HFB := Aside.mk hfb; clear hom hog hnw hfb hb
          refine yT 8 41 hHeld ?_
          refine yT 9 50 hHeld ?_
          refine yP 10 51 hHeld ?_
          refine yReady (rs := [11]) (by kernel_rfl) (by simp) ?_
          refine yLast (Or.inl rfl) rfl (fun K hK => ?_) yNil
          have lB := hHeld.1.cells; have qB := hHeld.1.lt; have fB := hHeld.1.free; go_simp
          refine hK.out _ _ ?_
          clear hK K
          (try simp only [Act.put, List.setIfInBounds_toArray, List.set_cons_zero, List.set_cons_succ])
          refine yDone (by kernel_rfl) ?_ _
          go_wp2
          go_roundw
          case rel => rw [setsc7]; exact ⟨i + 1, rb, D1 ++ D2, by go_num, by omega, ⟨HasFine.stored (b := rb) (Am := An) (cm := cn) (Ag := Ah) (cg := ch) (D1 := D1) (D2 := D2) HOM.out HOG.out HNW.out hHeld.1 HBN.out HBG.out HFB.out⟩, ⟨hHeld.2.2.out.2.2.2.sets2 (by have := HBG.out; have := HZW.out; omega) _⟩, ⟨hHeld.2.2.out.1.sets (by have := HBG.out; have := HZW.out; omega) _ _⟩⟩
          case measure => simp [intOf]; omega
        · go_wp2_with (fail)
          refine yBegin (S := (fun w' => Loc w' B #[.int .i64 b.g, .string b.nm, .int .i64 b.t, .int .i64 b.b, .int .i64 b.nx, .slice Am b.ml.length cm, .slice Ag b.go.length cg] 32 ∧ Loc w' w4.heap.size #[.int .i64 t2, .int .i64 y2] 29 ∧ Aside (Hold W wz w C D (rdParts b (.slice Am b.ml.length cm) (.slice Ag b.go.length cg)) #[.int .i64 0, .string ⟨#[]⟩, .int .i64 0, .int .i64 0, .int .i64 0, .slice none 0 0, .slice none 0 0] 32 w'))) (z := 11) (by kernel_rfl) (by exact ⟨LB.out.drew', L7.out.drew', ⟨Hold.drew HH.out⟩⟩) (fun hHeld => ?_)
          refine yT 0 42 hHeld ?_
          refine yT 1 43 hHeld ?_
          refine yT 2 44 hHeld ?_
          refine yT 4 46 hHeld ?_
          refine yT 6 48 hHeld ?_
          refine yReady (rs := [3]) (by kernel_rfl) (by simp) ?_
          refine yOne rfl (fun K hK => ?_) yNil
          go_simp
          refine (l01Below_calls W _ C _ hHeld.2.2.out.1.1).mono ?_; rintro e w6 ⟨f, rfl, _, _, _, hw⟩
          refine hK.out _ _ (by exact ⟨hHeld.1.went hw (by have := HBG.out; have := HZW.out; have := HL.out; omega), hHeld.2.1.went hw (by have := HQ4.out; have := HL.out; omega), ⟨Hold.went hHeld.2.2.out hw HL.out (by have := HZW.out; omega)⟩⟩) (fun hHeld => ?_)
          clear hK K
          (try simp only [Act.put, List.setIfInBounds_toArray, List.set_cons_zero, List.set_cons_succ])
          clear hw
          refine yReady (rs := [5]) (by kernel_rfl) (by simp) ?_
          refine yOne rfl (fun K hK => ?_) yNil
          go_simp
          refine (l05Text_calls W _ C hHeld.2.2.out.1.1).mono ?_; rintro e w7 ⟨s, rfl, hs, hw⟩
          refine hK.out _ _ (by exact ⟨hHeld.1.went hw (by have := HBG.out; have := HZW.out; have := HL.out; omega), hHeld.2.1.went hw (by have := HQ4.out; have := HL.out; omega), ⟨Hold.went hHeld.2.2.out hw HL.out (by have := HZW.out; omega)⟩⟩) (fun hHeld => ?_)
          clear hK K
          (try simp only [Act.put, List.setIfInBounds_toArray, List.set_cons_zero, List.set_cons_succ])
          have HS := Aside.mk hs; clear hw hs
          refine yReady (rs := [7]) (by kernel_rfl) (by simp) ?_
          refine yOne rfl (fun K hK => ?_) yNil
          go_simp
          have hHp := hHeld; refine (addFine _ _ _ b _ _ _ t2 y2 HFN.out hHeld.2.2.out.2.1.now HS.out HT2.out.1 HT2.out.2).mono ?_; rintro e w8 ⟨rb, ok, An, cn, Ah, ch, D1, D2, rfl, hom, hog, hnw, hfb, hb⟩
          refine hK.out _ _ (by exact ⟨hHeld.1.below hb, hHeld.2.1.below hb, ⟨Hold.below hHeld.2.2.out hb⟩⟩) (fun hHeld => ?_)
          clear hK K
          (try simp only [Act.put, List.setIfInBounds_toArray, List.set_cons_zero, List.set_cons_succ])
          have HOM := Aside.mk hom; have HOG := Aside.mk hog; have HNW := Aside.mk (hnw.from (w0 := wz) (by have := hHp.2.1.lt; have := HQ4.out; have := HZW.out; omega)); have HBN : Aside (B ∉ D1 ++ D2) := ⟨fun hx => by have h1 := (hnw.2 _ hx).1; have h2 := hHp.1.lt; omega⟩; have HFB := Aside.mk hfb; clear hom hog hnw hfb hb
          refine yT 8 41 hHeld ?_
          refine yT 9 50 hHeld ?_
          refine yP 10 51 hHeld ?_
          refine yReady (rs := [11]) (by kernel_rfl) (by simp) ?_
          refine yLast (Or.inl rfl) rfl (fun K hK => ?_) yNil
          have lB := hHeld.1.cells; have qB := hHeld.1.lt; have fB := hHeld.1.free; go_simp
          refine hK.out _ _ ?_
          clear hK K
          (try simp only [Act.put, List.setIfInBounds_toArray, List.set_cons_zero, List.set_cons_succ])
          refine yDone (by kernel_rfl) ?_ _
          go_wp2
          go_roundw
          case rel => rw [setsc7]; exact ⟨i + 1, rb, D1 ++ D2, by go_num, by omega, ⟨HasFine.stored (b := rb) (Am := An) (cm := cn) (Ag := Ah) (cg := ch) (D1 := D1) (D2 := D2) HOM.out HOG.out HNW.out hHeld.1 HBN.out HBG.out HFB.out⟩, ⟨hHeld.2.2.out.2.2.2.sets2 (by have := HBG.out; have := HZW.out; omega) _⟩, ⟨hHeld.2.2.out.1.sets (by have := HBG.out; have := HZW.out; omega) _ _⟩⟩
          case measure => simp [intOf]; omega
        · go_wp2_with (fail)
          refine yBegin (S := (fun w' => Loc w' B #[.int .i64 b.g, .string b.nm, .int .i64 b.t, .int .i64 b.b, .int .i64 b.nx, .slice Am b.ml.length cm, .slice Ag b.go.length cg] 32 ∧ Loc w' w4.heap.size #[.int .i64 t2, .int .i64 y2] 29 ∧ Aside (Hold W wz w C D (rdParts b (.slice Am b.ml.length cm) (.slice Ag b.go.length cg)) #[.int .i64 0, .string ⟨#[]⟩, .int .i64 0, .int .i64 0, .int .i64 0, .slice none 0 0, .slice none 0 0] 32 w'))) (z := 9) (by kernel_rfl) (by exact ⟨LB.out.drew', L7.out.drew', ⟨Hold.drew HH.out⟩⟩) (fun hHeld => ?_)
          refine yT 0 55 hHeld ?_
          refine yT 1 56 hHeld ?_
          refine yT 2 57 hHeld ?_
          refine yT 4 59 hHeld ?_
          refine yReady (rs := [3]) (by kernel_rfl) (by simp) ?_
          refine yOne rfl (fun K hK => ?_) yNil
          go_simp
          refine (l01Below_calls W _ C _ hHeld.2.2.out.1.1).mono ?_; rintro e w6 ⟨f, rfl, _, _, _, hw⟩
          refine hK.out _ _ (by exact ⟨hHeld.1.went hw (by have := HBG.out; have := HZW.out; have := HL.out; omega), hHeld.2.1.went hw (by have := HQ4.out; have := HL.out; omega), ⟨Hold.went hHeld.2.2.out hw HL.out (by have := HZW.out; omega)⟩⟩) (fun hHeld => ?_)
          clear hK K
          (try simp only [Act.put, List.setIfInBounds_toArray, List.set_cons_zero, List.set_cons_succ])
          clear hw
          refine yReady (rs := [5]) (by kernel_rfl) (by simp) ?_
          refine yOne rfl (fun K hK => ?_) yNil
          go_simp
          have hHp := hHeld; refine (flagFine _ _ _ b _ _ t2 y2 HFN.out hHeld.2.2.out.2.1.now HT2.out.1 HT2.out.2).mono ?_; rintro e w8 ⟨rb, ok, An, cn, Ah, ch, D1, D2, rfl, hom, hog, hnw, hfb, hb⟩
          refine hK.out _ _ (by exact ⟨hHeld.1.below hb, hHeld.2.1.below hb, ⟨Hold.below hHeld.2.2.out hb⟩⟩) (fun hHeld => ?_)
          clear hK K
          (try simp only [Act.put, List.setIfInBounds_toArray, List.set_cons_zero, List.set_cons_succ])
          have HOM := Aside.mk hom; have HOG := Aside.mk hog; have HNW := Aside.mk (hnw.from (w0 := wz) (by have := hHp.2.1.lt; have := HQ4.out; have := HZW.out; omega)); have HBN : Aside (B ∉ D1 ++ D2) := ⟨fun hx => by have h1 := (hnw.2 _ hx).1; have h2 := hHp.1.lt; omega⟩; have HFB := Aside.mk hfb; clear hom hog hnw hfb hb
          refine yT 6 54 hHeld ?_
          refine yT 7 61 hHeld ?_
          refine yP 8 62 hHeld ?_
          refine yReady (rs := [9]) (by kernel_rfl) (by simp) ?_
          refine yLast (Or.inl rfl) rfl (fun K hK => ?_) yNil
          have lB := hHeld.1.cells; have qB := hHeld.1.lt; have fB := hHeld.1.free; go_simp
          refine hK.out _ _ ?_
          clear hK K
          (try simp only [Act.put, List.setIfInBounds_toArray, List.set_cons_zero, List.set_cons_succ])
          refine yDone (by kernel_rfl) ?_ _
          go_wp2
          go_roundw
          case rel => rw [setsc7]; exact ⟨i + 1, rb, D1 ++ D2, by go_num, by omega, ⟨HasFine.stored (b := rb) (Am := An) (cm := cn) (Ag := Ah) (cg := ch) (D1 := D1) (D2 := D2) HOM.out HOG.out HNW.out hHeld.1 HBN.out HBG.out HFB.out⟩, ⟨hHeld.2.2.out.2.2.2.sets2 (by have := HBG.out; have := HZW.out; omega) _⟩, ⟨hHeld.2.2.out.1.sets (by have := HBG.out; have := HZW.out; omega) _ _⟩⟩
          case measure => simp [intOf]; omega
        · have lB := LB.out.cells
          have qB := LB.out.lt
          have fB := LB.out.free
          go_wp2_with (fail)
          have hHp := And.intro LB.out L7.out
          refine (takeFine _ _ _ b _ HFN.out HH.out.2.1.now HGX.out).mono ?_
          rintro e w8 ⟨rb, ok, An, cn, Ah, ch, D1, D2, rfl, hom, hog, hnw, hfb, hb⟩
          have HNW := Aside.mk (hnw.from (w0 := wz) (by have := L7.out.lt; have := HQ4.out; have := HZW.out; omega))
          have HBN : Aside (B ∉ D1 ++ D2) := ⟨fun hx => by have h1 := (hnw.2 _ hx).1; have h2 := LB.out.lt; omega⟩
          have HOM := Aside.mk hom
          have HOG := Aside.mk hog
          have HFB := Aside.mk hfb
          have hHeld : Loc w8 B #[.int .i64 b.g, .string b.nm, .int .i64 b.t, .int .i64 b.b, .int .i64 b.nx, .slice Am b.ml.length cm, .slice Ag b.go.length cg] 32 ∧ Loc w8 w4.heap.size #[.int .i64 t2, .int .i64 y2] 29 ∧ Aside (Hold W wz w C D (rdParts b (.slice Am b.ml.length cm) (.slice Ag b.go.length cg)) #[.int .i64 0, .string ⟨#[]⟩, .int .i64 0, .int .i64 0, .int .i64 0, .slice none 0 0, .slice none 0 0] 32 w8) := ⟨LB.out.below hb, L7.out.below hb, ⟨Hold.below HH.out hb⟩⟩
          clear hom hog hnw hfb hb hHp lB qB fB
          have lB := hHeld.1.cells
          have qB := hHeld.1.lt
          have fB := hHeld.1.free
          go_wp2
          go_roundw
          case rel => rw [setsc7]; exact ⟨i + 1, rb, D1 ++ D2, by go_num, by omega, ⟨HasFine.stored (b := rb) (Am := An) (cm := cn) (Ag := Ah) (cg := ch) (D1 := D1) (D2 := D2) HOM.out HOG.out HNW.out hHeld.1 HBN.out HBG.out HFB.out⟩, ⟨hHeld.2.2.out.2.2.2.sets2 (by have := HBG.out; have := HZW.out; omega) _⟩, ⟨hHeld.2.2.out.1.sets (by have := HBG.out; have := HZW.out; omega) _ _⟩⟩
          case measure => simp [intOf]; omega
      · obtain ⟨Am, cm, Ag, cg, hl, hr, hn, hBD, hBg, hf⟩ := HF.out
        have LB := Aside.mk hl
        have HRS := Aside.mk hr
        have HND := Aside.mk hn
        have HFN := Aside.mk hf
        have hneB : w.heap.size ≠ B := by have := HBG.out; have := HZW.out; omega
        have hneC : B ≠ w.heap.size := fun e => hneB e.symm
        clear hl hr hn hBD hBg hf
        have lB := LB.out.cells
        have qB := LB.out.lt
        have fB := LB.out.free
        have l2 := L2.out.cells
        have q2 := L2.out.lt
        have f2 := L2.out.free
        go_wp2
        refine bodyPost_ret (v := .agg #[.int .i64 b.g, .string b.nm, .int .i64 b.t, .int .i64 b.b, .int .i64 b.nx, .slice Am b.ml.length cm, .slice Ag b.go.length cg]) (by simp [results, go_sem, l2, q2, lB, qB]) rfl ⟨b, _, _, D, rfl, ?_, ?_, HFN.out, ?_⟩
        · rw [setsc7]
          exact HRS.out.move fun q hq => sets_far _ _ _ _ q (fun e => by have := (HND.out.2 q hq).1; have := HZW.out; omega)
        · rw [setsc7]
          exact (HND.out.sets2 _ _ _).from (by have := HZW.out; omega)
        · rw [setsc7]
          exact HW.out.sets (Nat.le_refl _) _ _
set_option maxHeartbeats 2000000 in
set_option maxRecDepth 100000 in
theorem drawBox_calls (w : World) (A : Option Addr) (c : Nat) (code : List Int) (h : rdBytes w (.slice A code.length c) code) :
    Calls Try.prog 33 #[.slice A code.length c] w fun e w' => ∃ (b : Box) (Am : Option Addr) (cm : Nat) (Ag : Option Addr) (cg : Nat), e = .returned (.agg #[.int .i64 b.g, .string b.nm, .int .i64 b.t, .int .i64 b.b, .int .i64 b.nx, .slice Am b.ml.length cm, .slice Ag b.go.length cg]) ∧ rdParts b (.slice Am b.ml.length cm) (.slice Ag b.go.length cg) w' ∧ fineBox b ∧ Below w.heap.size w w' := by
  have HR := Aside.mk h
  clear h
  go_enter Try.func33, Try.ntmps33
  go_wp2_with (fail)
  refine (l01New_calls _ A c code (rdBytes_mov (by (repeat (first | (with_reducible exact HB.out) | (with_reducible exact Below.refl _ _) | (with_reducible refine below_set ?_ (by first | omega | (dsimp only; omega) | (simp; done) | (simp; omega)) _) | (with_reducible refine below_alloc ?_ _) | (with_reducible refine below_drewN ?_ _) | (with_reducible refine below_drew ?_)))) HR.out)).mono ?_
  rintro e w1 ⟨C, rfl, hc, hb⟩
  have HB : Aside (Below w.heap.size w w1) := ⟨below_step (by (repeat (first | (with_reducible exact HB.out) | (with_reducible exact Below.refl _ _) | (with_reducible refine below_set ?_ (by first | omega | (dsimp only; omega) | (simp; done) | (simp; omega)) _) | (with_reducible refine below_alloc ?_ _) | (with_reducible refine below_drewN ?_ _) | (with_reducible refine below_drew ?_)))) hb⟩
  have HL : Aside (w.heap.size + 1 ≤ C) := ⟨by have := hc.ge; simp at this; omega⟩
  have HW := Aside.mk (Went.refl hc)
  have L2 := Aside.mk ((Loc.new w #[.int .i64 0, .string ⟨#[]⟩, .int .i64 0, .int .i64 0, .int .i64 0, .slice none 0 0, .slice none 0 0] 32).below hb)
  clear hb hc
  go_wp2_with (fail)
  refine (l06Box_calls _ _ C HW.out.1).mono ?_
  rintro e w2 ⟨b, mv, gv, D, rfl, hr, hn, hf, hw⟩
  obtain ⟨Am, cm, rfl, _, _⟩ := rd_len hr.now.1
  obtain ⟨Ag, cg, rfl, _, _⟩ := rd_len hr.now.2
  have HDA : Aside (w.heap.size ∉ D) := ⟨fun hx => by have h1 := (hn.2 _ hx).1; have h2 := L2.out.lt; omega⟩
  have HRA := Aside.mk hr
  have HF := Aside.mk hf
  replace HB := Aside.mk (hw.low HB.out (by have := HL.out; omega))
  replace L2 := Aside.mk (L2.out.went hw (by have := HL.out; omega))
  clear hr hn hf hw
  have l2 := L2.out.cells
  have q2 := L2.out.lt
  have f2 := L2.out.free
  go_wp2
  refine bodyPost_ret (v := .agg #[.int .i64 b.g, .string b.nm, .int .i64 b.t, .int .i64 b.b, .int .i64 b.nx, .slice Am b.ml.length cm, .slice Ag b.go.length cg]) (by simp [results, go_sem, l2, q2]) rfl ⟨b, _, _, _, _, rfl, ?_, HF.out, ?_⟩
  · rw [setsc7]
    exact (HRA.out.move fun q hq => sets_far _ _ _ _ q (fun e => by rw [e] at hq; exact HDA.out hq)).now
  · (repeat (first | (with_reducible exact HB.out) | (with_reducible exact Below.refl _ _) | (with_reducible refine below_set ?_ (by first | omega | (dsimp only; omega) | (simp; done) | (simp; omega)) _) | (with_reducible refine below_alloc ?_ _) | (with_reducible refine below_drewN ?_ _) | (with_reducible refine below_drew ?_)))
/-! The walk of the statement on marked boxes. Printed by this session's gen_lawboxes.py. -/
theorem cell_next2 {w : World} {a : Addr} {v u : Value} (h0 : w.cell? a = some v) (h1 : w.cell? (a.add 1) = some u) : w.cell? ⟨a.block, a.off + 1, none⟩ = some u := by
  obtain ⟨b, o, sp⟩ := a
  have hs := World.cell?_spot h0
  subst hs
  simpa [Addr.add] using h1
theorem flagRead (w : World) (mv gv : Value) (b : Box) (i : Nat) (hi : i < b.ml.length) (n : Int) (hn : 0 ≤ n ∧ n ≤ 7) (hf : fineBox b) (hr : rdParts b mv gv w) (cml : List Mail) (hc : cml = b.ml.set i ⟨b.ml[i].g, b.ml[i].u, setFlags b.ml[i].fl n 60 1, b.ml[i].tx⟩) (g : Int) (hg : g = b.ml[i].g) :
    Calls Try.prog 35 #[.agg #[.int .i64 b.g, .string b.nm, .int .i64 b.t, .int .i64 b.b, .int .i64 b.nx, mv, gv], .int .i64 g, .int .i64 n, .agg #[.int .i64 60, .int .i64 1]] w fun e w' => ∃ (Ac : Option Addr) (cc : Nat) (Ah : Option Addr) (ch : Nat), e = .returned (.tuple #[.agg #[.int .i64 b.g, .string b.nm, .int .i64 b.t, .int .i64 b.b, .int .i64 b.nx, .slice Ac cml.length cc, .slice Ah b.go.length ch], .bool true]) ∧ rdMails w' (.slice Ac cml.length cc) cml ∧ Below w.heap.size w w' := by
  have h := flagMail_calls w mv gv b g n 60 1 hr.1 hr.2 (fine_sm hf) (fine_tx hf)
  rw [hg, fine_flagMail hf i hi n hn.1 hn.2, ← hc] at h
  rw [hg]
  refine h.mono ?_
  rintro e w' ⟨mv', gv', D, rfl, ho, _, hb⟩
  obtain ⟨A2, c2, A3, c3, D1, D2, rfl, rfl, rfl, h1, h2⟩ := box_parts ho
  exact ⟨A2, c2, A3, c3, rfl, owRow_rd ow_mail h1, hb⟩
theorem takeRead (w : World) (mv gv : Value) (b : Box) (i : Nat) (hi : i < b.ml.length) (hf : fineBox b) (hr : rdParts b mv gv w) (dml : List Mail) (hd : dml = b.ml.eraseIdx i) (dgo : List Int) (hdg : dgo = putIn b.ml[i].g b.go) (g : Int) (hg : g = b.ml[i].g) :
    Calls Try.prog 14 #[.agg #[.int .i64 b.g, .string b.nm, .int .i64 b.t, .int .i64 b.b, .int .i64 b.nx, mv, gv], .int .i64 g] w fun e w' => ∃ (Ad : Option Addr) (cd : Nat) (Ae : Option Addr) (ce : Nat), e = .returned (.tuple #[.agg #[.int .i64 b.g, .string b.nm, .int .i64 b.t, .int .i64 b.b, .int .i64 b.nx, .slice Ad dml.length cd, .slice Ae dgo.length ce], .bool true]) ∧ rdMails w' (.slice Ad dml.length cd) dml ∧ rdInts w' (.slice Ae dgo.length ce) dgo ∧ Below w.heap.size w w' := by
  have h := takeOut_calls w mv gv b g hr.1 hr.2 (fine_sm hf) (fine_tx hf)
  rw [hg, fine_takeOut hf i hi, ← hd, ← hdg] at h
  rw [hg]
  refine h.mono ?_
  rintro e w' ⟨mv', gv', D, rfl, ho, _, hb⟩
  obtain ⟨A2, c2, A3, c3, D1, D2, rfl, rfl, rfl, h1, h2⟩ := box_parts ho
  exact ⟨A2, c2, A3, c3, rfl, owRow_rd ow_mail h1, owRow_rd ow_int h2, hb⟩
theorem flagNone (w : World) (mv gv : Value) (b : Box) (hf : fineBox b) (hr : rdParts b mv gv w) (he : b.ml = []) :
    Calls Try.prog 35 #[.agg #[.int .i64 b.g, .string b.nm, .int .i64 b.t, .int .i64 b.b, .int .i64 b.nx, mv, gv], .int .i64 10, .int .i64 1, .agg #[.int .i64 60, .int .i64 1]] w fun e w' => ∃ (Ac : Option Addr) (cc : Nat) (Ah : Option Addr) (ch : Nat), e = .returned (.tuple #[.agg #[.int .i64 b.g, .string b.nm, .int .i64 b.t, .int .i64 b.b, .int .i64 b.nx, .slice Ac b.ml.length cc, .slice Ah b.go.length ch], .bool false]) ∧ Below w.heap.size w w' := by
  have h := flagMail_calls w mv gv b 10 1 60 1 hr.1 hr.2 (fine_sm hf) (fine_tx hf)
  have e : flagMail b 10 1 60 1 = (b, false) := by
    unfold flagMail
    rw [he]
    simp [mailAt, mailAtFrom]
  rw [e] at h
  refine h.mono ?_
  rintro e w' ⟨mv', gv', D, rfl, ho, _, hb⟩
  obtain ⟨A2, c2, A3, c3, D1, D2, rfl, rfl, rfl, h1, h2⟩ := box_parts ho
  exact ⟨A2, c2, A3, c3, rfl, hb⟩
theorem takeNone (w : World) (mv gv : Value) (b : Box) (hf : fineBox b) (hr : rdParts b mv gv w) (he : b.ml = []) :
    Calls Try.prog 14 #[.agg #[.int .i64 b.g, .string b.nm, .int .i64 b.t, .int .i64 b.b, .int .i64 b.nx, mv, gv], .int .i64 10] w fun e w' => ∃ (Ac : Option Addr) (cc : Nat) (Ah : Option Addr) (ch : Nat), e = .returned (.tuple #[.agg #[.int .i64 b.g, .string b.nm, .int .i64 b.t, .int .i64 b.b, .int .i64 b.nx, .slice Ac b.ml.length cc, .slice Ah b.go.length ch], .bool false]) ∧ Below w.heap.size w w' := by
  have h := takeOut_calls w mv gv b 10 hr.1 hr.2 (fine_sm hf) (fine_tx hf)
  have e : takeOut b 10 = (b, false) := by
    unfold takeOut
    rw [he]
    simp [mailAt, mailAtFrom]
  rw [e] at h
  refine h.mono ?_
  rintro e w' ⟨mv', gv', D, rfl, ho, _, hb⟩
  obtain ⟨A2, c2, A3, c3, D1, D2, rfl, rfl, rfl, h1, h2⟩ := box_parts ho
  exact ⟨A2, c2, A3, c3, rfl, hb⟩
theorem rdParts_mov {b : Box} {mv gv : Value} {w w' : World} (hb : Below w.heap.size w w') (h : rdParts b mv gv w) : rdParts b mv gv w' := ⟨rdMails_mov hb h.1, rdInts_mov hb h.2⟩
set_option maxHeartbeats 20000000 in
set_option maxRecDepth 100000 in
theorem lawFnBoxesMarked (w : World) (v0 : Value) (code : List Int) (h : rdBytes w v0 code) :
    Calls Try.prog 6 #[v0] w fun e w' => e = .returned (.bool true) ∧ Below w.heap.size w w' := by
  obtain ⟨A, c, rfl, _, hm⟩ := rd_len h
  have HR := Aside.mk h
  clear h
  by_cases hbig : (1048576 : Int) < (code.length : Int)
  · have HBG := Aside.mk (decide_eq_true hbig)
    go_enter Try.func6, Try.ntmps6
    go_wp2_with (go_at_call 32; refine (big_calls _ _ code HR.out).mono ?_; rintro e w1 ⟨rfl, hb⟩; rw [HBG.out]; have HB := Aside.mk hb; clear hb)
    go_ret
    exact ⟨rfl, HB.out⟩
  have HBG := Aside.mk (decide_eq_false hbig)
  clear hbig
  go_enter Try.func6, Try.ntmps6
  go_wp2_with (fail)
  refine (big_calls _ _ code HR.out).mono ?_
  rintro e w1 ⟨rfl, hb⟩
  rw [HBG.out]
  have HB := Aside.mk hb
  clear hb HBG
  go_wp2_with (fail)
  refine (drawBox_calls _ A c code (rdBytes_mov HB.out HR.out)).mono ?_
  rintro e w2 ⟨b, Am, cm, Ag, cg, rfl, hr, hf, hb⟩
  have HF := Aside.mk hf
  have HRb := Aside.mk (rdParts_mov (below_alloc (Below.refl _ w2) (.cells #[.int .i64 b.g, .string b.nm, .int .i64 b.t, .int .i64 b.b, .int .i64 b.nx, .slice Am b.ml.length cm, .slice Ag b.go.length cg] 32)) hr)
  replace HB := Aside.mk (below_alloc (below_step HB.out hb) (.cells #[.int .i64 b.g, .string b.nm, .int .i64 b.t, .int .i64 b.b, .int .i64 b.nx, .slice Am b.ml.length cm, .slice Ag b.go.length cg] 32))
  have L3 := Aside.mk (Loc.new w2 #[.int .i64 b.g, .string b.nm, .int .i64 b.t, .int .i64 b.b, .int .i64 b.nx, .slice Am b.ml.length cm, .slice Ag b.go.length cg] 32)
  clear hr hf hb
  go_wp2_with (fail)
  refine (drawPlaces_calls _ A c code (rdBytes_mov HB.out HR.out)).mono ?_
  rintro e w3 ⟨vp, lp, rfl, hp, hpl, hpx, hb⟩
  obtain ⟨Ap, cp, rfl, hpc, _⟩ := rd_len hp
  have HRp := Aside.mk hp
  have HPX := Aside.mk hpx
  have HPL := Aside.mk hpl
  replace HRb := Aside.mk (rdParts_mov hb HRb.out)
  replace L3 := Aside.mk (L3.out.below hb)
  replace HB := Aside.mk (below_step HB.out hb)
  clear hp hpx hb hpl hpc
  have l3 := L3.out.cells
  have q3 := L3.out.lt
  have f3 := L3.out.free
  by_cases he : b.ml = []
  · have hq : ((b.ml.length : Int) == 0) = true := by rw [he]; rfl
    have HEE := Aside.mk he
    have HFB : Aside (boxOk b = true) := ⟨HF.out.1⟩
    clear he
    go_wp2_with (fail)
    refine (flagNone _ _ _ b HF.out HRb.out HEE.out).mono ?_
    rintro e w4 ⟨Ac, cc, Ah, ch, rfl, hb⟩
    replace HRb := Aside.mk (rdParts_mov (below_alloc (Below.refl _ w4) (.cells #[.int .i64 b.g, .string b.nm, .int .i64 b.t, .int .i64 b.b, .int .i64 b.nx, .slice Ac b.ml.length cc, .slice Ah b.go.length ch] 32)) (rdParts_mov hb HRb.out))
    replace HB := Aside.mk (below_alloc (below_step HB.out hb) (.cells #[.int .i64 b.g, .string b.nm, .int .i64 b.t, .int .i64 b.b, .int .i64 b.nx, .slice Ac b.ml.length cc, .slice Ah b.go.length ch] 32))
    replace L3 := Aside.mk ((L3.out.below hb).alloc (.cells #[.int .i64 b.g, .string b.nm, .int .i64 b.t, .int .i64 b.b, .int .i64 b.nx, .slice Ac b.ml.length cc, .slice Ah b.go.length ch] 32))
    clear hb l3 q3 f3
    have l3 := L3.out.cells
    have q3 := L3.out.lt
    have f3 := L3.out.free
    go_wp2_with (fail)
    refine (takeNone _ _ _ b HF.out HRb.out HEE.out).mono ?_
    rintro e w5 ⟨Ac2, cc2, Ah2, ch2, rfl, hb⟩
    replace HRb := Aside.mk (rdParts_mov (below_alloc (Below.refl _ w5) (.cells #[.int .i64 b.g, .string b.nm, .int .i64 b.t, .int .i64 b.b, .int .i64 b.nx, .slice Ac2 b.ml.length cc2, .slice Ah2 b.go.length ch2] 32)) (rdParts_mov hb HRb.out))
    replace HB := Aside.mk (below_alloc (below_step HB.out hb) (.cells #[.int .i64 b.g, .string b.nm, .int .i64 b.t, .int .i64 b.b, .int .i64 b.nx, .slice Ac2 b.ml.length cc2, .slice Ah2 b.go.length ch2] 32))
    replace L3 := Aside.mk ((L3.out.below hb).alloc (.cells #[.int .i64 b.g, .string b.nm, .int .i64 b.t, .int .i64 b.b, .int .i64 b.nx, .slice Ac2 b.ml.length cc2, .slice Ah2 b.go.length ch2] 32))
    clear hb l3 q3 f3
    have l3 := L3.out.cells
    have q3 := L3.out.lt
    have f3 := L3.out.free
    go_wp2_with (fail)
    refine (boxOk_calls _ _ _ b HRb.out.1 HRb.out.2 (fine_tx HF.out).1 (fine_tx HF.out).2).mono ?_
    rintro e w6 ⟨rfl, hb⟩
    rw [HFB.out]
    replace HB := Aside.mk (below_step HB.out hb)
    clear hb
    go_wp2
    go_ret
    exact ⟨rfl, HB.out⟩
  · have hpos : 0 < b.ml.length := by
      cases hb0 : b.ml with
      | nil => exact absurd hb0 he
      | cons m l => simp
    have hq : ((b.ml.length : Int) == 0) = false := by
      rw [beq_eq_false_iff_ne]
      omega
    have hq2 : ¬ ((b.ml.length : Int) = 0) := by omega
    have hL0 : 0 < lp.length := by have := HPL.out; omega
    have hL1 : 1 < lp.length := by have := HPL.out; omega
    obtain ⟨adp, hAp, xp0⟩ := rdInts_at HRp.out 0 hL0
    subst hAp
    obtain ⟨_, e0, xp1⟩ := rdInts_at HRp.out 1 hL1
    injection e0 with e0
    subst e0
    rw [add0] at xp0
    have hp0 := HPX.out lp[0] (List.getElem_mem hL0)
    have hp1 := HPX.out lp[1] (List.getElem_mem hL1)
    generalize lp[0] = p0 at xp0 hp0
    generalize lp[1] = p1 at xp1 hp1
    have xp2 := cell_next2 xp0 xp1
    have h12 : (0 : Int) < (lp.length : Int) := by have := HPL.out; omega
    have h13 : (1 : Int) < (lp.length : Int) := by have := HPL.out; omega
    obtain ⟨i, hi1, hi2⟩ : ∃ i : Nat, p0.tmod (b.ml.length : Int) = (i : Int) ∧ i < b.ml.length := ⟨(p0 % (b.ml.length : Int)).toNat, by rw [Int.tmod_eq_emod_of_nonneg hp0.1]; have := Int.emod_nonneg p0 hq2; omega, by have h1 := Int.emod_lt_of_pos p0 (show (0 : Int) < (b.ml.length : Int) by omega); have h2 := Int.emod_nonneg p0 hq2; omega⟩
    obtain ⟨n, hn, hn0, hn7⟩ : ∃ n : Int, p1.tmod 8 = n ∧ 0 ≤ n ∧ n ≤ 7 := ⟨_, rfl, by rw [Int.tmod_eq_emod_of_nonneg hp1.1]; omega, by rw [Int.tmod_eq_emod_of_nonneg hp1.1]; omega⟩
    have HI : Aside (i < b.ml.length) := ⟨hi2⟩
    have HN07 : Aside (0 ≤ n ∧ n ≤ 7) := ⟨⟨hn0, hn7⟩⟩
    obtain ⟨adb, fvb, hAb, y0, _, _, _, _⟩ := rdMails_at HRb.out.1 i HI.out
    subst hAb
    obtain ⟨g, hg⟩ : ∃ g : Int, g = (b.ml[i]'HI.out).g := ⟨_, rfl⟩
    rw [← hg] at y0
    have HG := Aside.mk hg
    have hi3 : (0 : Int) ≤ (i : Int) := by omega
    have hi4 : (i : Int) < (b.ml.length : Int) := by omega
    clear hg hp0 hp1 hn0 hn7 hi2 hpos
    go_wp2_with (fail)
    refine zBegin (S := (fun w' => Loc w' w2.heap.size #[.int .i64 b.g, .string b.nm, .int .i64 b.t, .int .i64 b.b, .int .i64 b.nx, .slice (some adb) b.ml.length cm, .slice Ag b.go.length cg] 32 ∧ w'.cell? adp = some (.int .i64 p0))) (z := 8) (by kernel_rfl) (by exact ⟨L3.out.drew', xp0⟩) (fun hHeld => ?_)
    refine zT 0 50 hHeld ?_
    refine zT 1 51 hHeld ?_
    refine zT 2 52 hHeld ?_
    refine zT 3 53 hHeld ?_
    refine zT 4 54 hHeld ?_
    refine zT 5 55 hHeld ?_
    refine zT 6 56 hHeld ?_
    refine zT 7 9 hHeld ?_
    refine zDone (by kernel_rfl) ?_ _
    clear hHeld
    go_wp2_with (fail)
    obtain ⟨cml, hcml⟩ : ∃ x : List Mail, x = b.ml.set i ⟨(b.ml[i]'HI.out).g, (b.ml[i]'HI.out).u, setFlags (b.ml[i]'HI.out).fl n 60 1, (b.ml[i]'HI.out).tx⟩ := ⟨_, rfl⟩
    obtain ⟨dml, hdml⟩ : ∃ x : List Mail, x = b.ml.eraseIdx i := ⟨_, rfl⟩
    obtain ⟨dgo, hdgo⟩ : ∃ x : List Int, x = putIn (b.ml[i]'HI.out).g b.go := ⟨_, rfl⟩
    have HCM := Aside.mk hcml
    have HDM := Aside.mk hdml
    have HDG := Aside.mk hdgo
    have HCL : Aside (cml.length = b.ml.length) := ⟨by rw [hcml]; simp⟩
    have HFLN : Aside (flagsOf (setFlags (b.ml[i]'HI.out).fl n 60 1) = n) := ⟨flagsOf_60 (HF.out.2.2 _ (List.getElem_mem HI.out)) (fine_fl HF.out (List.getElem_mem HI.out)) n HN07.out.1 HN07.out.2⟩
    have HHAS : Aside (has g dgo = true) := ⟨has_mem.2 (by rw [hdgo, ← HG.out]; exact putIn_mem.2 (.inr rfl))⟩
    have HNEG : Aside (mailAt dml g = -1) := ⟨by rw [hdml, HG.out]; exact fine_out HF.out i HI.out⟩
    have HLEFT : Aside (∀ k (hk : k < b.ml.length), k ≠ i → ∃ j : Nat, mailAt dml (b.ml[k]'hk).g = (j : Int) ∧ ∃ hj : j < dml.length, dml[j] = b.ml[k]'hk) := ⟨fun k hk hki => by rw [hdml]; exact fine_left HF.out i k hk hki HI.out⟩
    have HSAME : Aside (∀ k (hk : k < b.ml.length), k ≠ i → ∃ hc : k < cml.length, cml[k] = b.ml[k]'hk) := ⟨fun k hk hki => ⟨by rw [HCL.out]; exact hk, by subst hcml; rw [List.getElem_set]; rw [if_neg (fun e => hki e.symm)]⟩⟩
    have HATI : Aside (∃ hc : i < cml.length, cml[i] = ⟨(b.ml[i]'HI.out).g, (b.ml[i]'HI.out).u, setFlags (b.ml[i]'HI.out).fl n 60 1, (b.ml[i]'HI.out).tx⟩) := ⟨⟨by rw [HCL.out]; exact HI.out, by subst hcml; simp⟩⟩
    clear he hcml hdml hdgo y0 xp0 xp1 xp2 h12 h13 hL0 hL1 hq hq2 l3 q3 f3
    replace HRb := Aside.mk (rdParts_mov (below_drew (Below.refl _ w3)) HRb.out)
    replace HB := Aside.mk (below_drew HB.out)
    replace L3 := Aside.mk L3.out.drew'
    refine (flagRead _ _ _ b i HI.out n HN07.out HF.out HRb.out cml HCM.out g HG.out).mono ?_
    rintro e w4 ⟨Ac, cc, Ah, ch, rfl, hrc, hb⟩
    have HRc := Aside.mk (rdMails_mov (below_alloc (Below.refl _ w4) (.cells #[.int .i64 b.g, .string b.nm, .int .i64 b.t, .int .i64 b.b, .int .i64 b.nx, .slice Ac cml.length cc, .slice Ah b.go.length ch] 32)) hrc)
    replace HRb := Aside.mk (rdParts_mov (below_alloc (Below.refl _ w4) (.cells #[.int .i64 b.g, .string b.nm, .int .i64 b.t, .int .i64 b.b, .int .i64 b.nx, .slice Ac cml.length cc, .slice Ah b.go.length ch] 32)) (rdParts_mov hb HRb.out))
    replace HB := Aside.mk (below_alloc (below_step HB.out hb) (.cells #[.int .i64 b.g, .string b.nm, .int .i64 b.t, .int .i64 b.b, .int .i64 b.nx, .slice Ac cml.length cc, .slice Ah b.go.length ch] 32))
    replace L3 := Aside.mk ((L3.out.below hb).alloc (.cells #[.int .i64 b.g, .string b.nm, .int .i64 b.t, .int .i64 b.b, .int .i64 b.nx, .slice Ac cml.length cc, .slice Ah b.go.length ch] 32))
    have L12 := Aside.mk (Loc.new w4 #[.int .i64 b.g, .string b.nm, .int .i64 b.t, .int .i64 b.b, .int .i64 b.nx, .slice Ac cml.length cc, .slice Ah b.go.length ch] 32)
    clear hrc hb
    have l3 := L3.out.cells
    have q3 := L3.out.lt
    have f3 := L3.out.free
    go_wp2_with (fail)
    refine (takeRead _ _ _ b i HI.out HF.out HRb.out dml HDM.out dgo HDG.out g HG.out).mono ?_
    rintro e w5 ⟨Ad, cd, Ae, ce, rfl, hrd, hrg, hb⟩
    have HRd := Aside.mk (rdMails_mov (below_alloc (Below.refl _ w5) (.cells #[.int .i64 b.g, .string b.nm, .int .i64 b.t, .int .i64 b.b, .int .i64 b.nx, .slice Ad dml.length cd, .slice Ae dgo.length ce] 32)) hrd)
    have HRg := Aside.mk (rdInts_mov (below_alloc (Below.refl _ w5) (.cells #[.int .i64 b.g, .string b.nm, .int .i64 b.t, .int .i64 b.b, .int .i64 b.nx, .slice Ad dml.length cd, .slice Ae dgo.length ce] 32)) hrg)
    replace HRb := Aside.mk (rdParts_mov (below_alloc (Below.refl _ w5) (.cells #[.int .i64 b.g, .string b.nm, .int .i64 b.t, .int .i64 b.b, .int .i64 b.nx, .slice Ad dml.length cd, .slice Ae dgo.length ce] 32)) (rdParts_mov hb HRb.out))
    replace HRc := Aside.mk (rdMails_mov (below_alloc (Below.refl _ w5) (.cells #[.int .i64 b.g, .string b.nm, .int .i64 b.t, .int .i64 b.b, .int .i64 b.nx, .slice Ad dml.length cd, .slice Ae dgo.length ce] 32)) (rdMails_mov hb HRc.out))
    replace HB := Aside.mk (below_alloc (below_step HB.out hb) (.cells #[.int .i64 b.g, .string b.nm, .int .i64 b.t, .int .i64 b.b, .int .i64 b.nx, .slice Ad dml.length cd, .slice Ae dgo.length ce] 32))
    replace L3 := Aside.mk ((L3.out.below hb).alloc (.cells #[.int .i64 b.g, .string b.nm, .int .i64 b.t, .int .i64 b.b, .int .i64 b.nx, .slice Ad dml.length cd, .slice Ae dgo.length ce] 32))
    replace L12 := Aside.mk ((L12.out.below hb).alloc (.cells #[.int .i64 b.g, .string b.nm, .int .i64 b.t, .int .i64 b.b, .int .i64 b.nx, .slice Ad dml.length cd, .slice Ae dgo.length ce] 32))
    have L14 := Aside.mk (Loc.new w5 #[.int .i64 b.g, .string b.nm, .int .i64 b.t, .int .i64 b.b, .int .i64 b.nx, .slice Ad dml.length cd, .slice Ae dgo.length ce] 32)
    clear hrd hrg hb l3 q3 f3
    obtain ⟨wq, hwq⟩ : ∃ wq, wq = w5.alloc (.cells #[.int .i64 b.g, .string b.nm, .int .i64 b.t, .int .i64 b.b, .int .i64 b.nx, .slice Ad dml.length cd, .slice Ae dgo.length ce] 32) := ⟨_, rfl⟩
    rw [← hwq] at HRd HRg HRb HRc HB L3 L12 L14
    go_wp2_with (fail)
    rw [← hwq]
    clear hwq
    go_loopw [16] (fun v16 wr => ∃ k : Nat, k ≤ b.ml.length ∧ v16 = .int .i64 k ∧ Aside (Below wq.heap.size wq wr)) (fun v16 _ => b.ml.length - (intOf v16).toNat)
    case atStart => exact ⟨0, Nat.zero_le _, rfl, ⟨Below.refl _ _⟩⟩
    case round =>
      obtain ⟨k, hk, rfl, HX⟩ := hrel
      have hk10 : b.ml.length ≤ 10 := fine_len HF.out
      have L3r := Aside.mk (L3.out.below HX.out)
      have L12r := Aside.mk (L12.out.below HX.out)
      have L14r := Aside.mk (L14.out.below HX.out)
      have l3 := L3r.out.cells
      have q3 := L3r.out.lt
      have f3 := L3r.out.free
      by_cases hlt : k < b.ml.length
      · have hk2 : (0 : Int) ≤ (k : Int) := by omega
        have hk3 : (k : Int) < (b.ml.length : Int) := by omega
        obtain ⟨adb2, fvm, eA, z0, z1, z2, z3, hfm⟩ := rdMails_at (rdMails_mov HX.out HRb.out.1) k hlt
        injection eA with eA
        subst eA
        obtain ⟨Af, cf, rfl, _, _⟩ := rd_len hfm
        obtain ⟨m, hm0⟩ : ∃ m, m = b.ml[k]'hlt := ⟨_, rfl⟩
        rw [← hm0] at z0 z1 z2 z3 hfm
        have HM := Aside.mk hm0
        have HFM := Aside.mk hfm
        clear hm0 hfm
        have hba := below_alloc (Below.refl _ wr) (.cells #[.int .i64 m.g, .int .i64 m.u, .slice Af m.fl.length cf, .string m.tx] 58)
        have HBA := Aside.mk hba
        clear hba
        by_cases hki : k = i
        · have HMG : Aside (mailAt dml m.g = -1) := ⟨by rw [HM.out]; have h1 := HNEG.out; rw [HG.out] at h1; subst hki; exact h1⟩
          subst hki
          go_wp2_with (fail)
          refine zBegin (S := (fun w' => Loc w' wr.heap.size #[.int .i64 m.g, .int .i64 m.u, .slice Af m.fl.length cf, .string m.tx] 58)) (z := 13) (by kernel_rfl) (by exact (Loc.new wr _ _).drew') (fun hHeld => ?_)
          refine zT 0 93 hHeld ?_
          refine zT 1 94 hHeld ?_
          refine zT 2 95 hHeld ?_
          refine zT 3 96 hHeld ?_
          refine zU 4 97 hHeld ?_
          refine zU 5 98 hHeld ?_
          refine zU 6 99 hHeld ?_
          refine zU 7 100 hHeld ?_
          refine zU 8 101 hHeld ?_
          refine zU 9 102 hHeld ?_
          refine zU 10 103 hHeld ?_
          refine zU 11 104 hHeld ?_
          refine zT 12 105 hHeld ?_
          refine zDone (by kernel_rfl) ?_ _
          clear l3 q3 f3
          have l14 := (L14r.out.alloc (.cells #[.int .i64 m.g, .int .i64 m.u, .slice Af m.fl.length cf, .string m.tx] 58)).drew'.cells
          have q14 := (L14r.out.alloc (.cells #[.int .i64 m.g, .int .i64 m.u, .slice Af m.fl.length cf, .string m.tx] 58)).drew'.lt
          have f14 := (L14r.out.alloc (.cells #[.int .i64 m.g, .int .i64 m.u, .slice Af m.fl.length cf, .string m.tx] 58)).drew'.free
          clear hHeld
          go_wp2_with (fail)
          refine (mailAt_calls _ _ _ ⟨b.g, b.nm, b.t, b.b, b.nx, dml, dgo⟩ m.g (rdMails_mov (below_drew HBA.out) (rdMails_mov HX.out HRd.out)) rfl).mono ?_
          rintro e w7 ⟨he, hb⟩
          have he2 : e = .returned (.int .i64 (mailAt dml m.g)) := he
          rw [HMG.out] at he2
          clear he
          subst he2
          have HBZ := Aside.mk (below_step (w0 := wr) (below_drew HBA.out) hb)
          clear hb l14 q14 f14
          go_wp2_with (fail)
          refine zBegin (S := (fun w' => Aside (Below wr.heap.size wr w'))) (z := 26) (by kernel_rfl) (by exact ⟨below_drew HBZ.out⟩) (fun hHeld => ?_)
          refine zT 0 110 hHeld ?_
          refine zT 1 111 hHeld ?_
          refine zT 2 112 hHeld ?_
          refine zT 3 113 hHeld ?_
          refine zT 4 114 hHeld ?_
          refine zT 5 115 hHeld ?_
          refine zT 6 116 hHeld ?_
          refine zT 7 117 hHeld ?_
          refine zT 8 118 hHeld ?_
          refine zT 9 119 hHeld ?_
          refine zT 10 120 hHeld ?_
          refine zT 11 121 hHeld ?_
          refine zU 12 122 hHeld ?_
          refine zU 13 123 hHeld ?_
          refine zU 14 124 hHeld ?_
          refine zU 15 125 hHeld ?_
          refine zU 16 126 hHeld ?_
          refine zU 17 127 hHeld ?_
          refine zU 18 128 hHeld ?_
          refine zU 19 129 hHeld ?_
          refine zU 20 130 hHeld ?_
          refine zU 21 131 hHeld ?_
          refine zU 22 132 hHeld ?_
          refine zU 23 133 hHeld ?_
          refine zT 24 134 hHeld ?_
          refine zT 25 135 hHeld ?_
          refine zDone (by kernel_rfl) ?_ _
          have HBY := hHeld
          clear hHeld
          go_wp2
          go_roundw
          case rel => exact ⟨k + 1, by omega, by go_num, ⟨below_step HX.out HBY.out⟩⟩
          case measure => simp [intOf]; omega
        · have hki2 : ¬ ((k : Int) = (i : Int)) := by omega
          have hkb : ((k : Int) == (i : Int)) = false := by rw [beq_eq_false_iff_ne]; omega
          have hkd : decide ((k : Int) = (i : Int)) = false := decide_eq_false hki2
          have hkne : ((k : Int) != (i : Int)) = true := by rw [bne_iff_ne]; exact hki2
          have hkb2 : (k == i) = false := by rw [beq_eq_false_iff_ne]; exact hki
          have hkd2 : decide (k = i) = false := decide_eq_false hki
          obtain ⟨hkc, hce⟩ := HSAME.out k hlt hki
          obtain ⟨j, hj, hjl, hde⟩ := HLEFT.out k hlt hki
          obtain ⟨adc, fvc, hAc, x0, x1, x2, x3, hfc⟩ := rdMails_at (rdMails_mov HX.out HRc.out) k hkc
          subst hAc
          obtain ⟨Ay, cy, rfl, _, _⟩ := rd_len hfc
          obtain ⟨add, fvd, hAd, u0, u1, u2, u3, hfd⟩ := rdMails_at (rdMails_mov HX.out HRd.out) j hjl
          subst hAd
          obtain ⟨Az, cz, rfl, _, _⟩ := rd_len hfd
          rw [hce, ← HM.out] at x0 x1 x2 x3 hfc
          rw [hde, ← HM.out] at u0 u1 u2 u3 hfd
          rw [← HM.out] at hj
          have HFC := Aside.mk hfc
          have HFD := Aside.mk hfd
          have HJ := Aside.mk hj
          have hkc2 : (k : Int) < (cml.length : Int) := by omega
          have hjd0 : (0 : Int) ≤ (j : Int) := by omega
          have hjd1 : (j : Int) < (dml.length : Int) := by omega
          have hjd2 : ¬ ((j : Int) < 0) := by omega
          have hjd3 : decide ((j : Int) < 0) = false := decide_eq_false hjd2
          have X0 := Aside.mk (cell_b (below_drew HBA.out) x0)
          have X1 := Aside.mk (cell_b (below_drew HBA.out) x1)
          have X2 := Aside.mk (cell_b (below_drew HBA.out) x2)
          have X3 := Aside.mk (cell_b (below_drew HBA.out) x3)
          have U0 := Aside.mk u0
          have U1 := Aside.mk u1
          have U2 := Aside.mk u2
          have U3 := Aside.mk u3
          clear hce hde hfc hfd hj x0 x1 x2 x3 u0 u1 u2 u3
          go_wp2_with (fail)
          refine zBegin (S := (fun w' => Loc w' w4.heap.size #[.int .i64 b.g, .string b.nm, .int .i64 b.t, .int .i64 b.b, .int .i64 b.nx, .slice (some adc) cml.length cc, .slice Ah b.go.length ch] 32 ∧ Loc w' wr.heap.size #[.int .i64 m.g, .int .i64 m.u, .slice Af m.fl.length cf, .string m.tx] 58 ∧ w'.cell? (adc.add (k * 4)) = some (.int .i64 m.g) ∧ w'.cell? ⟨(adc.add (k * 4)).block, (adc.add (k * 4)).off + 1, none⟩ = some (.int .i64 m.u) ∧ w'.cell? ⟨(adc.add (k * 4)).block, (adc.add (k * 4)).off + 2, none⟩ = some (.slice Ay m.fl.length cy) ∧ w'.cell? ⟨(adc.add (k * 4)).block, (adc.add (k * 4)).off + 3, none⟩ = some (.string m.tx) ∧ Aside (Below wr.heap.size wr w'))) (z := 13) (by kernel_rfl) (by exact ⟨(L12r.out.alloc _).drew', (Loc.new wr _ _).drew', X0.out, X1.out, X2.out, X3.out, ⟨below_drew HBA.out⟩⟩) (fun hHeld => ?_)
          refine zT 0 93 hHeld ?_
          refine zT 1 94 hHeld ?_
          refine zT 2 95 hHeld ?_
          refine zT 3 96 hHeld ?_
          refine zT 4 97 hHeld ?_
          refine zT 5 98 hHeld ?_
          refine zT 6 99 hHeld ?_
          refine zT 7 100 hHeld ?_
          refine zT 8 101 hHeld ?_
          refine zT 9 102 hHeld ?_
          refine zReady (rs := [10]) (by kernel_rfl) (by simp) ?_
          refine zOne (by decide) rfl (fun K hK => ?_) zNil
          go_simp
          refine (specSameMail_calls _ m m _ _ (rdRegs_mov hHeld.2.2.2.2.2.2.out HFC.out) (rdRegs_mov hHeld.2.2.2.2.2.2.out HFM.out)).mono ?_; rintro e w6 ⟨r, rfl, hr, hb⟩; replace hr := hr.2 rfl; subst hr
          refine hK.out _ _ (by exact ⟨hHeld.1.below hb, hHeld.2.1.below hb, cell_b hb hHeld.2.2.1, cell_b hb hHeld.2.2.2.1, cell_b hb hHeld.2.2.2.2.1, cell_b hb hHeld.2.2.2.2.2.1, ⟨below_step hHeld.2.2.2.2.2.2.out hb⟩⟩) (fun hHeld => ?_)
          clear hK K
          (try simp only [Act.put, List.setIfInBounds_toArray, List.set_cons_zero, List.set_cons_succ])
          clear hb
          refine zT 11 104 hHeld ?_
          refine zT 12 105 hHeld ?_
          refine zDone (by kernel_rfl) ?_ _
          clear l3 q3 f3
          have HBX := hHeld.2.2.2.2.2.2
          have L17 := Aside.mk hHeld.2.1
          have L14s := Aside.mk (L14r.out.below HBX.out)
          clear hHeld X0 X1 X2 X3
          have l14 := L14s.out.cells
          have q14 := L14s.out.lt
          have f14 := L14s.out.free
          have l17 := L17.out.cells
          have q17 := L17.out.lt
          have f17 := L17.out.free
          go_wp2_with (fail)
          refine (mailAt_calls _ _ _ ⟨b.g, b.nm, b.t, b.b, b.nx, dml, dgo⟩ m.g (rdMails_mov HBX.out (rdMails_mov HX.out HRd.out)) rfl).mono ?_
          rintro e w7 ⟨he, hb⟩
          have he2 : e = .returned (.int .i64 (mailAt dml m.g)) := he
          rw [HJ.out] at he2
          clear he
          subst he2
          have HBZ := Aside.mk (below_step HBX.out hb)
          replace L17 := Aside.mk (L17.out.below hb)
          replace L14s := Aside.mk (L14s.out.below hb)
          clear hb l14 q14 f14 l17 q17 f17
          go_wp2_with (fail)
          refine zBegin (S := (fun w' => Loc w' w5.heap.size #[.int .i64 b.g, .string b.nm, .int .i64 b.t, .int .i64 b.b, .int .i64 b.nx, .slice (some add) dml.length cd, .slice Ae dgo.length ce] 32 ∧ Loc w' wr.heap.size #[.int .i64 m.g, .int .i64 m.u, .slice Af m.fl.length cf, .string m.tx] 58 ∧ w'.cell? (add.add (j * 4)) = some (.int .i64 m.g) ∧ w'.cell? ⟨(add.add (j * 4)).block, (add.add (j * 4)).off + 1, none⟩ = some (.int .i64 m.u) ∧ w'.cell? ⟨(add.add (j * 4)).block, (add.add (j * 4)).off + 2, none⟩ = some (.slice Az m.fl.length cz) ∧ w'.cell? ⟨(add.add (j * 4)).block, (add.add (j * 4)).off + 3, none⟩ = some (.string m.tx) ∧ Aside (Below wr.heap.size wr w'))) (z := 26) (by kernel_rfl) (by exact ⟨L14s.out.drew', L17.out.drew', cell_b (below_drew HBZ.out) U0.out, cell_b (below_drew HBZ.out) U1.out, cell_b (below_drew HBZ.out) U2.out, cell_b (below_drew HBZ.out) U3.out, ⟨below_drew HBZ.out⟩⟩) (fun hHeld => ?_)
          refine zT 0 110 hHeld ?_
          refine zT 1 111 hHeld ?_
          refine zT 2 112 hHeld ?_
          refine zT 3 113 hHeld ?_
          refine zU 4 114 hHeld ?_
          refine zU 5 115 hHeld ?_
          refine zT 6 116 hHeld ?_
          refine zT 7 117 hHeld ?_
          refine zT 8 118 hHeld ?_
          refine zT 9 119 hHeld ?_
          refine zT 10 120 hHeld ?_
          refine zT 11 121 hHeld ?_
          refine zT 12 122 hHeld ?_
          refine zT 13 123 hHeld ?_
          refine zT 14 124 hHeld ?_
          refine zT 15 125 hHeld ?_
          refine zT 16 126 hHeld ?_
          refine zT 17 127 hHeld ?_
          refine zT 18 128 hHeld ?_
          refine zT 19 129 hHeld ?_
          refine zT 20 130 hHeld ?_
          refine zReady (rs := [21]) (by kernel_rfl) (by simp) ?_
          refine zOne (by decide) rfl (fun K hK => ?_) zNil
          go_simp
          refine (specSameMail_calls _ m m _ _ (rdRegs_mov hHeld.2.2.2.2.2.2.out HFD.out) (rdRegs_mov hHeld.2.2.2.2.2.2.out HFM.out)).mono ?_; rintro e w8 ⟨r, rfl, hr, hb⟩; replace hr := hr.2 rfl; subst hr
          refine hK.out _ _ (by exact ⟨hHeld.1.below hb, hHeld.2.1.below hb, cell_b hb hHeld.2.2.1, cell_b hb hHeld.2.2.2.1, cell_b hb hHeld.2.2.2.2.1, cell_b hb hHeld.2.2.2.2.2.1, ⟨below_step hHeld.2.2.2.2.2.2.out hb⟩⟩) (fun hHeld => ?_)
          clear hK K
          (try simp only [Act.put, List.setIfInBounds_toArray, List.set_cons_zero, List.set_cons_succ])
          clear hb
          refine zT 22 132 hHeld ?_
          refine zT 23 133 hHeld ?_
          refine zT 24 134 hHeld ?_
          refine zT 25 135 hHeld ?_
          refine zDone (by kernel_rfl) ?_ _
          have HBY := hHeld.2.2.2.2.2.2
          clear hHeld
          go_wp2
          go_roundw
          case rel => exact ⟨k + 1, by omega, by go_num, ⟨below_step HX.out HBY.out⟩⟩
          case measure => simp [intOf]; omega
      · have hlt2 : ¬ ((k : Int) < (b.ml.length : Int)) := by omega
        obtain ⟨hic, hce⟩ := HATI.out
        obtain ⟨adc, fvc, hAc, _, x1, x2, _, hfc⟩ := rdMails_at (rdMails_mov HX.out HRc.out) i hic
        subst hAc
        obtain ⟨Ay, cy, rfl, _, _⟩ := rd_len hfc
        obtain ⟨adb2, fvm, eA, _, z1, _, _, _⟩ := rdMails_at (rdMails_mov HX.out HRb.out.1) i HI.out
        injection eA with eA
        subst eA
        rw [hce] at x1 x2 hfc
        dsimp only at x1 x2 hfc
        obtain ⟨u, hu⟩ : ∃ u, (b.ml[i]'HI.out).u = u := ⟨_, rfl⟩
        rw [hu] at x1 z1
        obtain ⟨fl, hfl⟩ : ∃ fl, setFlags (b.ml[i]'HI.out).fl n 60 1 = fl := ⟨_, rfl⟩
        rw [hfl] at x2 hfc
        have HFO : Aside (flagsOf fl = n) := ⟨by rw [← hfl]; exact HFLN.out⟩
        have HFC := Aside.mk hfc
        have hic2 : (i : Int) < (cml.length : Int) := by omega
        have X1 := Aside.mk x1
        have X2 := Aside.mk x2
        have Z1 := Aside.mk z1
        clear hce hfc hu hfl x1 x2 z1
        go_wp2_with (fail)
        refine zBegin (S := (fun w' => Loc w' w2.heap.size #[.int .i64 b.g, .string b.nm, .int .i64 b.t, .int .i64 b.b, .int .i64 b.nx, .slice (some adb) b.ml.length cm, .slice Ag b.go.length cg] 32 ∧ Loc w' w4.heap.size #[.int .i64 b.g, .string b.nm, .int .i64 b.t, .int .i64 b.b, .int .i64 b.nx, .slice (some adc) cml.length cc, .slice Ah b.go.length ch] 32 ∧ Loc w' w5.heap.size #[.int .i64 b.g, .string b.nm, .int .i64 b.t, .int .i64 b.b, .int .i64 b.nx, .slice Ad dml.length cd, .slice Ae dgo.length ce] 32 ∧ w'.cell? ⟨(adc.add (i * 4)).block, (adc.add (i * 4)).off + 1, none⟩ = some (.int .i64 u) ∧ w'.cell? ⟨(adc.add (i * 4)).block, (adc.add (i * 4)).off + 2, none⟩ = some (.slice Ay fl.length cy) ∧ w'.cell? ⟨(adb.add (i * 4)).block, (adb.add (i * 4)).off + 1, none⟩ = some (.int .i64 u) ∧ Aside (Below wr.heap.size wr w'))) (z := 51) (by kernel_rfl) (by exact ⟨L3r.out.drew', L12r.out.drew', L14r.out.drew', X1.out, X2.out, Z1.out, ⟨below_drew (Below.refl _ wr)⟩⟩) (fun hHeld => ?_)
        refine zT 0 136 hHeld ?_
        refine zT 1 137 hHeld ?_
        refine zT 2 138 hHeld ?_
        refine zT 3 139 hHeld ?_
        refine zT 4 140 hHeld ?_
        refine zT 5 141 hHeld ?_
        refine zT 6 142 hHeld ?_
        refine zT 7 143 hHeld ?_
        refine zT 8 144 hHeld ?_
        refine zT 9 145 hHeld ?_
        refine zT 10 146 hHeld ?_
        refine zT 12 148 hHeld ?_
        refine zReady (rs := [11]) (by kernel_rfl) (by simp) ?_
        refine zOne (by decide) rfl (fun K hK => ?_) zNil
        go_simp
        refine (specFlagsOf_calls _ _ fl (rdRegs_mov hHeld.2.2.2.2.2.2.out HFC.out)).mono ?_; rintro e w6 ⟨rfl, hb⟩; rw [HFO.out]
        refine hK.out _ _ (by exact ⟨hHeld.1.below hb, hHeld.2.1.below hb, hHeld.2.2.1.below hb, cell_b hb hHeld.2.2.2.1, cell_b hb hHeld.2.2.2.2.1, cell_b hb hHeld.2.2.2.2.2.1, ⟨below_step hHeld.2.2.2.2.2.2.out hb⟩⟩) (fun hHeld => ?_)
        clear hK K
        (try simp only [Act.put, List.setIfInBounds_toArray, List.set_cons_zero, List.set_cons_succ])
        clear hb
        refine zT 13 149 hHeld ?_
        refine zT 14 150 hHeld ?_
        refine zT 15 151 hHeld ?_
        refine zT 16 152 hHeld ?_
        refine zT 17 153 hHeld ?_
        refine zT 18 154 hHeld ?_
        refine zT 19 155 hHeld ?_
        refine zT 20 156 hHeld ?_
        refine zT 21 157 hHeld ?_
        refine zT 22 158 hHeld ?_
        refine zT 23 159 hHeld ?_
        refine zT 24 160 hHeld ?_
        refine zT 25 161 hHeld ?_
        refine zT 26 162 hHeld ?_
        refine zT 27 163 hHeld ?_
        refine zT 28 164 hHeld ?_
        refine zT 29 165 hHeld ?_
        refine zT 30 166 hHeld ?_
        refine zT 31 167 hHeld ?_
        refine zT 32 168 hHeld ?_
        refine zT 33 169 hHeld ?_
        refine zT 34 170 hHeld ?_
        refine zT 35 171 hHeld ?_
        refine zT 36 172 hHeld ?_
        refine zT 37 173 hHeld ?_
        refine zT 38 174 hHeld ?_
        refine zT 39 175 hHeld ?_
        refine zT 40 176 hHeld ?_
        refine zT 41 177 hHeld ?_
        refine zT 42 178 hHeld ?_
        refine zT 43 179 hHeld ?_
        refine zT 44 180 hHeld ?_
        refine zT 45 181 hHeld ?_
        refine zT 46 182 hHeld ?_
        refine zT 47 183 hHeld ?_
        refine zReady (rs := [48]) (by kernel_rfl) (by simp) ?_
        refine zOne (by decide) rfl (fun K hK => ?_) zNil
        go_simp
        refine (in_calls _ _ dgo g (rdInts_mov hHeld.2.2.2.2.2.2.out (rdInts_mov HX.out HRg.out))).mono ?_; rintro e w7 ⟨rfl, hb⟩; rw [HHAS.out]
        refine hK.out _ _ (by exact ⟨hHeld.1.below hb, hHeld.2.1.below hb, hHeld.2.2.1.below hb, cell_b hb hHeld.2.2.2.1, cell_b hb hHeld.2.2.2.2.1, cell_b hb hHeld.2.2.2.2.2.1, ⟨below_step hHeld.2.2.2.2.2.2.out hb⟩⟩) (fun hHeld => ?_)
        clear hK K
        (try simp only [Act.put, List.setIfInBounds_toArray, List.set_cons_zero, List.set_cons_succ])
        clear hb
        refine zT 49 185 hHeld ?_
        refine zT 50 2 hHeld ?_
        refine zDone (by kernel_rfl) ?_ _
        have HBY := hHeld.2.2.2.2.2.2
        clear hHeld l3 q3 f3
        go_wp2
        go_ret
        exact ⟨rfl, below_step (below_step HB.out HX.out) HBY.out⟩
end Go.Proofs.Ytjfjpabfkembcaa.H
