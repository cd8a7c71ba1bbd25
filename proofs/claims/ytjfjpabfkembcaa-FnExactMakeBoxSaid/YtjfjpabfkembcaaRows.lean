/-
  No cell of these rows narrows 'for every input' (looked for: loops, veiled, ifaces, maps, wideKeys, modest, calm, conditions, laid).
  DERIVED. THE GIVEN ROWS OF THIS SEAT. 8 by the template 'for every input the law returns true; each argument reads behind the call as it read before'; 0 by the template 'total and deterministic' (their statements: YtjfjpabfkembcaaTotals.lean).
  GIVEN WITH THE SEED: the statements are not yours to turn. If you find one false, say at which input.
  Laid BY PROGRAM, IN A SANDBOX (cutbox-rows.mjs): the forced cells as the released guide's own fill.sh prints them over the translation 8ff35047bbe2b631… (all of the seat's roots in one cut). By AI agents, Wed Nov 11 2026. No macro, syntax, notation, axiom, sorry.
-/
import Derived.Test.YtjfjpabfkembcaaChecked
import GoSem.Claim
import GoSem.ClaimJoined
import GoSem.ClaimMapViews
import Derived.JoinedTies
import Derived.KernelRfl
namespace Go.Proofs.Ytjfjpabfkembcaa
/- THE CELL 'sum', in the pinned program and in every row, IS THE sha256 OF THE DUMP (.gsa) THAT YtjfjpabfkembcaaProg.lean LOADS. Nothing in Lean hashes anything: it is a label: what it is worth is what the hold of that sum in a sandbox is worth. -/
noncomputable def Try.pinned : Pinned := { name := "ytjfjpabfkembcaa", sum := "8ff35047bbe2b631c8647a3d058e3cddfa189aa1b106777dc63795beca6e23e5", checked := Try.checked }
namespace Rows
def none {H : Type} : Left H := { results := [], args := [] }

/-- 'laws.FnExactTakeOut': WHATEVER THE INPUT: true; the input reads as it did. -/
def fnExactTakeOutSpec : ChangeSpec := { name := "fnExactTakeOut", fn := fun _ => fun
  | [d1, d2] => { results := [.lit (.bool true)], args := [d1, d2] }
  | _ => none }
def fnExactTakeOutRow : OpenClaim := { program := "ytjfjpabfkembcaa", sum := "8ff35047bbe2b631c8647a3d058e3cddfa189aa1b106777dc63795beca6e23e5", func := "loop.example/g00324/laws.FnExactTakeOut", spec := "fnExactTakeOut", unfollowed := true, recurses := true, apart := false }
def FnExactTakeOutSaid : Prop := fnExactTakeOutRow.holds Try.pinned (OpenSpec.ofChange fnExactTakeOutSpec)

/-- ITS FALSE NEIGHBOUR: 'it returns false'. Refute it at one input. -/
def fnExactTakeOutWrong : ChangeSpec := { name := "fnExactTakeOut", fn := fun _ => fun
  | [d1, d2] => { results := [.lit (.bool false)], args := [d1, d2] }
  | _ => none }
def FnExactTakeOutWrongFalsely : Prop := fnExactTakeOutRow.holds Try.pinned (OpenSpec.ofChange fnExactTakeOutWrong)

/-- 'laws.FnExactMakeBox': WHATEVER THE INPUT: true; the input reads as it did. -/
def fnExactMakeBoxSpec : ChangeSpec := { name := "fnExactMakeBox", fn := fun _ => fun
  | [d1, d2, d3] => { results := [.lit (.bool true)], args := [d1, d2, d3] }
  | _ => none }
def fnExactMakeBoxRow : OpenClaim := { program := "ytjfjpabfkembcaa", sum := "8ff35047bbe2b631c8647a3d058e3cddfa189aa1b106777dc63795beca6e23e5", func := "loop.example/g00324/laws.FnExactMakeBox", spec := "fnExactMakeBox", inPlace := ["slices.overlaps[loop.example/g00324/impl.Box]"], unfollowed := true, recurses := true, apart := false }
def FnExactMakeBoxSaid : Prop := fnExactMakeBoxRow.holds Try.pinned (OpenSpec.ofChange fnExactMakeBoxSpec)

/-- ITS FALSE NEIGHBOUR: 'it returns false'. Refute it at one input. -/
def fnExactMakeBoxWrong : ChangeSpec := { name := "fnExactMakeBox", fn := fun _ => fun
  | [d1, d2, d3] => { results := [.lit (.bool false)], args := [d1, d2, d3] }
  | _ => none }
def FnExactMakeBoxWrongFalsely : Prop := fnExactMakeBoxRow.holds Try.pinned (OpenSpec.ofChange fnExactMakeBoxWrong)

/-- 'laws.FnExactJoinMail': WHATEVER THE INPUT: true; the input reads as it did. -/
def fnExactJoinMailSpec : ChangeSpec := { name := "fnExactJoinMail", fn := fun _ => fun
  | [d1, d2] => { results := [.lit (.bool true)], args := [d1, d2] }
  | _ => none }
def fnExactJoinMailRow : OpenClaim := { program := "ytjfjpabfkembcaa", sum := "8ff35047bbe2b631c8647a3d058e3cddfa189aa1b106777dc63795beca6e23e5", func := "loop.example/g00324/laws.FnExactJoinMail", spec := "fnExactJoinMail", apart := false }
def FnExactJoinMailSaid : Prop := fnExactJoinMailRow.holds Try.pinned (OpenSpec.ofChange fnExactJoinMailSpec)

/-- ITS FALSE NEIGHBOUR: 'it returns false'. Refute it at one input. -/
def fnExactJoinMailWrong : ChangeSpec := { name := "fnExactJoinMail", fn := fun _ => fun
  | [d1, d2] => { results := [.lit (.bool false)], args := [d1, d2] }
  | _ => none }
def FnExactJoinMailWrongFalsely : Prop := fnExactJoinMailRow.holds Try.pinned (OpenSpec.ofChange fnExactJoinMailWrong)

/-- 'laws.FnBoxesMarked': WHATEVER THE INPUT: true; the input reads as it did. -/
def fnBoxesMarkedSpec : ChangeSpec := { name := "fnBoxesMarked", fn := fun _ => fun
  | [d] => { results := [.lit (.bool true)], args := [d] }
  | _ => none }
def fnBoxesMarkedRow : OpenClaim := { program := "ytjfjpabfkembcaa", sum := "8ff35047bbe2b631c8647a3d058e3cddfa189aa1b106777dc63795beca6e23e5", func := "loop.example/g00324/laws.FnBoxesMarked", spec := "fnBoxesMarked", unfollowed := true, recurses := true, apart := false }
def FnBoxesMarkedSaid : Prop := fnBoxesMarkedRow.holds Try.pinned (OpenSpec.ofChange fnBoxesMarkedSpec)

/-- ITS FALSE NEIGHBOUR: 'it returns false'. Refute it at one input. -/
def fnBoxesMarkedWrong : ChangeSpec := { name := "fnBoxesMarked", fn := fun _ => fun
  | [d] => { results := [.lit (.bool false)], args := [d] }
  | _ => none }
def FnBoxesMarkedWrongFalsely : Prop := fnBoxesMarkedRow.holds Try.pinned (OpenSpec.ofChange fnBoxesMarkedWrong)

/-- 'laws.FnFlags': WHATEVER THE INPUT: true; the input reads as it did. -/
def fnFlagsSpec : ChangeSpec := { name := "fnFlags", fn := fun _ => fun
  | [d] => { results := [.lit (.bool true)], args := [d] }
  | _ => none }
def fnFlagsRow : OpenClaim := { program := "ytjfjpabfkembcaa", sum := "8ff35047bbe2b631c8647a3d058e3cddfa189aa1b106777dc63795beca6e23e5", func := "loop.example/g00324/laws.FnFlags", spec := "fnFlags", apart := false }
def FnFlagsSaid : Prop := fnFlagsRow.holds Try.pinned (OpenSpec.ofChange fnFlagsSpec)

/-- ITS FALSE NEIGHBOUR: 'it returns false'. Refute it at one input. -/
def fnFlagsWrong : ChangeSpec := { name := "fnFlags", fn := fun _ => fun
  | [d] => { results := [.lit (.bool false)], args := [d] }
  | _ => none }
def FnFlagsWrongFalsely : Prop := fnFlagsRow.holds Try.pinned (OpenSpec.ofChange fnFlagsWrong)

/-- 'laws.FnTurned': WHATEVER THE INPUT: true; the input reads as it did. -/
def fnTurnedSpec : ChangeSpec := { name := "fnTurned", fn := fun _ => fun
  | [d] => { results := [.lit (.bool true)], args := [d] }
  | _ => none }
def fnTurnedRow : OpenClaim := { program := "ytjfjpabfkembcaa", sum := "8ff35047bbe2b631c8647a3d058e3cddfa189aa1b106777dc63795beca6e23e5", func := "loop.example/g00324/laws.FnTurned", spec := "fnTurned", apart := false }
def FnTurnedSaid : Prop := fnTurnedRow.holds Try.pinned (OpenSpec.ofChange fnTurnedSpec)

/-- ITS FALSE NEIGHBOUR: 'it returns false'. Refute it at one input. -/
def fnTurnedWrong : ChangeSpec := { name := "fnTurned", fn := fun _ => fun
  | [d] => { results := [.lit (.bool false)], args := [d] }
  | _ => none }
def FnTurnedWrongFalsely : Prop := fnTurnedRow.holds Try.pinned (OpenSpec.ofChange fnTurnedWrong)

/-- 'laws.FnExactReadMail': WHATEVER THE INPUT: true; the input reads as it did. -/
def fnExactReadMailSpec : ChangeSpec := { name := "fnExactReadMail", fn := fun _ => fun
  | [d1, d2] => { results := [.lit (.bool true)], args := [d1, d2] }
  | _ => none }
def fnExactReadMailRow : OpenClaim := { program := "ytjfjpabfkembcaa", sum := "8ff35047bbe2b631c8647a3d058e3cddfa189aa1b106777dc63795beca6e23e5", func := "loop.example/g00324/laws.FnExactReadMail", spec := "fnExactReadMail", apart := false }
def FnExactReadMailSaid : Prop := fnExactReadMailRow.holds Try.pinned (OpenSpec.ofChange fnExactReadMailSpec)

/-- ITS FALSE NEIGHBOUR: 'it returns false'. Refute it at one input. -/
def fnExactReadMailWrong : ChangeSpec := { name := "fnExactReadMail", fn := fun _ => fun
  | [d1, d2] => { results := [.lit (.bool false)], args := [d1, d2] }
  | _ => none }
def FnExactReadMailWrongFalsely : Prop := fnExactReadMailRow.holds Try.pinned (OpenSpec.ofChange fnExactReadMailWrong)

/-- 'laws.FnMails': WHATEVER THE INPUT: true; the input reads as it did. -/
def fnMailsSpec : ChangeSpec := { name := "fnMails", fn := fun _ => fun
  | [d] => { results := [.lit (.bool true)], args := [d] }
  | _ => none }
def fnMailsRow : OpenClaim := { program := "ytjfjpabfkembcaa", sum := "8ff35047bbe2b631c8647a3d058e3cddfa189aa1b106777dc63795beca6e23e5", func := "loop.example/g00324/laws.FnMails", spec := "fnMails", apart := false }
def FnMailsSaid : Prop := fnMailsRow.holds Try.pinned (OpenSpec.ofChange fnMailsSpec)

/-- ITS FALSE NEIGHBOUR: 'it returns false'. Refute it at one input. -/
def fnMailsWrong : ChangeSpec := { name := "fnMails", fn := fun _ => fun
  | [d] => { results := [.lit (.bool false)], args := [d] }
  | _ => none }
def FnMailsWrongFalsely : Prop := fnMailsRow.holds Try.pinned (OpenSpec.ofChange fnMailsWrong)

/- THE SECOND FORM. 'bulk': how many values and letters a reading holds, each counted each time it is reached (what is shared counts as often as it is met; a slice's spare places count too). A statement '..UptoSaid' is the law's where the arguments, and the package variables that the reading takes, are together of bulk at most 1048576: NARROWER than '..Said'. Prove '..Said' where nothing that the law and all that it calls make is longer than what came in: it says more and counts as full. Else prove '..UptoSaid'. A law counts once. -/
mutual
def uptoBulk {H : Type} : DataW H → Nat
  | .lit (.string bytes) => bytes.length + 1
  | .lit _ => 1
  | .nil => 1
  | .ptr d => uptoBulk d + 1
  | .slice elems spare => uptoBulkAll elems + uptoBulkAll spare + 1
  | .agg parts => uptoBulkAll parts + 1
  | .iface _ d => uptoBulk d + 1
  | .map entries => uptoBulkEntries entries + 1
  | .held _ => 1
def uptoBulkAll {H : Type} : List (DataW H) → Nat
  | [] => 0
  | d :: r => uptoBulk d + uptoBulkAll r
def uptoBulkEntries {H : Type} : List (Lit × DataW H) → Nat
  | [] => 0
  | x :: r => uptoBulkEntry x + uptoBulkEntries r
def uptoBulkEntry {H : Type} : Lit × DataW H → Nat
  | (.string bytes, d) => bytes.length + uptoBulk d + 1
  | (_, d) => uptoBulk d + 1
 end
def uptoSmall : (H : Type) → List (DataW H) → Bool := fun _ ds => decide (uptoBulkAll ds ≤ 1048576)
def OpenSpec.upto (s : _root_.Go.ChangeSpec) : _root_.Go.OpenSpec := { _root_.Go.OpenSpec.ofChange s with cond := some uptoSmall }

/-- 'laws.FnExactTakeOut', WHERE WHAT IT READS IS OF BULK AT MOST 1048576: true; the input reads as it did. -/
def fnExactTakeOutUptoRow : OpenClaim := { program := "ytjfjpabfkembcaa", sum := "8ff35047bbe2b631c8647a3d058e3cddfa189aa1b106777dc63795beca6e23e5", func := "loop.example/g00324/laws.FnExactTakeOut", spec := "fnExactTakeOut", unfollowed := true, recurses := true, apart := false, narrowed := true }
def FnExactTakeOutUptoSaid : Prop := fnExactTakeOutUptoRow.holds Try.pinned (OpenSpec.upto fnExactTakeOutSpec)

/-- 'laws.FnExactMakeBox', WHERE WHAT IT READS IS OF BULK AT MOST 1048576: true; the input reads as it did. -/
def fnExactMakeBoxUptoRow : OpenClaim := { program := "ytjfjpabfkembcaa", sum := "8ff35047bbe2b631c8647a3d058e3cddfa189aa1b106777dc63795beca6e23e5", func := "loop.example/g00324/laws.FnExactMakeBox", spec := "fnExactMakeBox", inPlace := ["slices.overlaps[loop.example/g00324/impl.Box]"], unfollowed := true, recurses := true, apart := false, narrowed := true }
def FnExactMakeBoxUptoSaid : Prop := fnExactMakeBoxUptoRow.holds Try.pinned (OpenSpec.upto fnExactMakeBoxSpec)

/-- 'laws.FnExactJoinMail', WHERE WHAT IT READS IS OF BULK AT MOST 1048576: true; the input reads as it did. -/
def fnExactJoinMailUptoRow : OpenClaim := { program := "ytjfjpabfkembcaa", sum := "8ff35047bbe2b631c8647a3d058e3cddfa189aa1b106777dc63795beca6e23e5", func := "loop.example/g00324/laws.FnExactJoinMail", spec := "fnExactJoinMail", apart := false, narrowed := true }
def FnExactJoinMailUptoSaid : Prop := fnExactJoinMailUptoRow.holds Try.pinned (OpenSpec.upto fnExactJoinMailSpec)

/-- 'laws.FnBoxesMarked', WHERE WHAT IT READS IS OF BULK AT MOST 1048576: true; the input reads as it did. -/
def fnBoxesMarkedUptoRow : OpenClaim := { program := "ytjfjpabfkembcaa", sum := "8ff35047bbe2b631c8647a3d058e3cddfa189aa1b106777dc63795beca6e23e5", func := "loop.example/g00324/laws.FnBoxesMarked", spec := "fnBoxesMarked", unfollowed := true, recurses := true, apart := false, narrowed := true }
def FnBoxesMarkedUptoSaid : Prop := fnBoxesMarkedUptoRow.holds Try.pinned (OpenSpec.upto fnBoxesMarkedSpec)

/-- 'laws.FnFlags', WHERE WHAT IT READS IS OF BULK AT MOST 1048576: true; the input reads as it did. -/
def fnFlagsUptoRow : OpenClaim := { program := "ytjfjpabfkembcaa", sum := "8ff35047bbe2b631c8647a3d058e3cddfa189aa1b106777dc63795beca6e23e5", func := "loop.example/g00324/laws.FnFlags", spec := "fnFlags", apart := false, narrowed := true }
def FnFlagsUptoSaid : Prop := fnFlagsUptoRow.holds Try.pinned (OpenSpec.upto fnFlagsSpec)

/-- 'laws.FnTurned', WHERE WHAT IT READS IS OF BULK AT MOST 1048576: true; the input reads as it did. -/
def fnTurnedUptoRow : OpenClaim := { program := "ytjfjpabfkembcaa", sum := "8ff35047bbe2b631c8647a3d058e3cddfa189aa1b106777dc63795beca6e23e5", func := "loop.example/g00324/laws.FnTurned", spec := "fnTurned", apart := false, narrowed := true }
def FnTurnedUptoSaid : Prop := fnTurnedUptoRow.holds Try.pinned (OpenSpec.upto fnTurnedSpec)

/-- 'laws.FnExactReadMail', WHERE WHAT IT READS IS OF BULK AT MOST 1048576: true; the input reads as it did. -/
def fnExactReadMailUptoRow : OpenClaim := { program := "ytjfjpabfkembcaa", sum := "8ff35047bbe2b631c8647a3d058e3cddfa189aa1b106777dc63795beca6e23e5", func := "loop.example/g00324/laws.FnExactReadMail", spec := "fnExactReadMail", apart := false, narrowed := true }
def FnExactReadMailUptoSaid : Prop := fnExactReadMailUptoRow.holds Try.pinned (OpenSpec.upto fnExactReadMailSpec)

/-- 'laws.FnMails', WHERE WHAT IT READS IS OF BULK AT MOST 1048576: true; the input reads as it did. -/
def fnMailsUptoRow : OpenClaim := { program := "ytjfjpabfkembcaa", sum := "8ff35047bbe2b631c8647a3d058e3cddfa189aa1b106777dc63795beca6e23e5", func := "loop.example/g00324/laws.FnMails", spec := "fnMails", apart := false, narrowed := true }
def FnMailsUptoSaid : Prop := fnMailsUptoRow.holds Try.pinned (OpenSpec.upto fnMailsSpec)

end Rows
end Go.Proofs.Ytjfjpabfkembcaa
