/- What the laws on boxes and stores share: sizes that are small. No program in it. -/
import Derived.Test.YtjfjpabfkembcaaHRegY
import Derived.Test.YtjfjpabfkembcaaHSz
import Derived.Test.YtjfjpabfkembcaaHHeld
import Derived.Test.YtjfjpabfkembcaaHEq
namespace Go.Proofs.Ytjfjpabfkembcaa.H
open Go.RowKit
set_option linter.unusedVariables false
/-- Since a world nothing that was there has changed. -/
def Since (w w' : World) : Prop := Below w.heap.size w w'
theorem Since.low {w w' : World} (h : Since w w') : Below w.heap.size w w' := h
theorem sets7 (w : World) (g : Nat) (v0 v1 v2 v3 v4 v5 v6 : Value) : ((((((w.setCell ⟨g, 0, none⟩ v0).setCell ⟨g, 1, none⟩ v1).setCell ⟨g, 2, none⟩ v2).setCell ⟨g, 3, none⟩ v3).setCell ⟨g, 4, none⟩ v4).setCell ⟨g, 5, none⟩ v5).setCell ⟨g, 6, none⟩ v6 = sets w g 0 [v0, v1, v2, v3, v4, v5, v6] := rfl
theorem sets4 (w : World) (g : Nat) (v0 v1 v2 v3 : Value) : (((w.setCell ⟨g, 0, none⟩ v0).setCell ⟨g, 1, none⟩ v1).setCell ⟨g, 2, none⟩ v2).setCell ⟨g, 3, none⟩ v3 = sets w g 0 [v0, v1, v2, v3] := rfl
theorem sz_mail_in {m : Mail} : ∀ {l : List Mail}, m ∈ l → szMail m ≤ szMails0 l
  | x :: l, h => by
    simp only [szMails0]
    rcases List.mem_cons.1 h with e | h
    · subst e; omega
    · have := sz_mail_in h; omega
theorem cMails_sz : ∀ (l : List Mail), cMails l ≤ 3 * (l.length + szMails0 l)
  | [] => by simp [cMails, szMails0]
  | m :: l => by
    have := cMails_sz l
    simp only [cMails, cMail, szMails0, szMail, List.length_cons]
    omega
theorem sz_box_in {m : Box} : ∀ {l : List Box}, m ∈ l → szBox m ≤ szBoxes0 l
  | x :: l, h => by
    simp only [szBoxes0]
    rcases List.mem_cons.1 h with e | h
    · subst e; omega
    · have := sz_box_in h; omega
theorem cBoxes_sz : ∀ (l : List Box), cBoxes l ≤ 5 * (l.length + szBoxes0 l)
  | [] => by simp [cBoxes, szBoxes0]
  | m :: l => by
    have := cBoxes_sz l
    have := cMails_sz m.ml
    simp only [cBoxes, cBox, szBoxes0, szBox, szMails, List.length_cons]
    omega
theorem smBox_of_sz {b : Box} (h : szBox b ≤ 1048576) : smBox b := by
  unfold szBox szMails at h
  refine ⟨⟨by omega, fun m hm => ?_⟩, by omega⟩
  have := sz_mail_in hm
  unfold szMail at this
  omega
theorem smStore_of_sz {s : Store} (h : szStore s ≤ 1048576) : smStore s := by
  unfold szStore szBoxes at h
  refine ⟨⟨by omega, fun b hb => smBox_of_sz ?_⟩, by omega⟩
  have := sz_box_in hb
  omega
theorem cBox_of_sz {b : Box} (h : szBox b ≤ 1048576) : cMails b.ml + (b.go.length : Int) ≤ 10000000 := by
  have := cMails_sz b.ml
  unfold szBox szMails at h
  omega
theorem cStore_of_sz {s : Store} (h : szStore s ≤ 1048576) : cBoxes s.bx + (s.go.length : Int) ≤ 10000000 := by
  have := cBoxes_sz s.bx
  unfold szStore szBoxes at h
  omega
theorem sz_le {n : Nat} {r : Int} (h : isSz n 1048576 r) (hn : ¬ r < 0) : n ≤ 1048576 := by
  unfold isSz at h
  omega
theorem addMail_small {b rb : Box} {ok : Bool} {g f t y : Int} {tx : ByteArray} (h : addMail b g f tx t y = (rb, ok)) (hs : szBox b ≤ 1048576) : cMails rb.ml + (rb.go.length : Int) ≤ 100000000 := by
  have h0 := cBox_of_sz hs
  unfold addMail at h
  split at h
  · dsimp only at h
    split at h
    · injection h with h _
      subst h
      rw [cMails_app]
      simp only [cMails, cMail, flagsNew, List.length_cons, List.length_nil]
      omega
    · injection h with h _
      subst h
      omega
  · injection h with h _
    subst h
    omega
theorem markedBox_rd {w : World} {D : List Nat} {g t y nx : Int} {nm : ByteArray} {v0 v1 : Value} {b : Box} {k : Int} (h : owBox w D [.int .i64 g, .string nm, .int .i64 t, .int .i64 y, .int .i64 nx, v0, v1] (markedBox b k)) :
    rdMails w v0 (markedBox b k).ml ∧ rdInts w v1 (markedBox b k).go := by
  obtain ⟨mv, gv, _, _, e, _, h0, h1⟩ := h
  simp only [List.cons.injEq, and_true] at e
  obtain ⟨_, _, _, _, _, rfl, rfl⟩ := e
  exact ⟨owRow_rd ow_mail h0, owRow_rd ow_int h1⟩
theorem markedStore_rd {w : World} {D : List Nat} {g t : Int} {v0 v1 : Value} {b : Store} {k : Int} (h : owStore w D [.int .i64 g, .int .i64 t, v0, v1] (markedStore b k)) :
    rdBoxes w v0 (markedStore b k).bx ∧ rdInts w v1 (markedStore b k).go := by
  obtain ⟨mv, gv, _, _, e, _, h0, h1⟩ := h
  simp only [List.cons.injEq, and_true] at e
  obtain ⟨_, _, rfl, rfl⟩ := e
  exact ⟨owRow_rd ow_box h0, owRow_rd ow_int h1⟩
end Go.Proofs.Ytjfjpabfkembcaa.H
