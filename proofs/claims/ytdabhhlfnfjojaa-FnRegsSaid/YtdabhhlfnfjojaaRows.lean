/-
  No cell of these rows narrows 'for every input' (looked for: loops, veiled, ifaces, maps, wideKeys, modest, calm, conditions, laid).
  DERIVED. THE GIVEN ROWS OF THIS SEAT. 12 by the template 'for every input the law returns true; each argument reads behind the call as it read before'; 0 by the template 'total and deterministic' (their statements: YtdabhhlfnfjojaaTotals.lean).
  GIVEN WITH THE SEED: the statements are not yours to turn. If you find one false, say at which input.
  Laid BY PROGRAM, IN A SANDBOX (cutbox-rows.mjs): the forced cells as the released guide's own fill.sh prints them over the translation e73da3ee23b71e01… (all of the seat's roots in one cut). By AI agents, Wed Nov 11 2026. No macro, syntax, notation, axiom, sorry.
-/
import Derived.Test.YtdabhhlfnfjojaaChecked
import GoSem.Claim
import GoSem.ClaimJoined
import GoSem.ClaimMapViews
import Derived.JoinedTies
import Derived.KernelRfl
namespace Go.Proofs.Ytdabhhlfnfjojaa
/- THE CELL 'sum', in the pinned program and in every row, IS THE sha256 OF THE DUMP (.gsa) THAT YtdabhhlfnfjojaaProg.lean LOADS. Nothing in Lean hashes anything: it is a label: what it is worth is what the hold of that sum in a sandbox is worth. -/
noncomputable def Try.pinned : Pinned := { name := "ytdabhhlfnfjojaa", sum := "e73da3ee23b71e01a01f9da30ec0779ecae90888bc9a1795d601e8e67dae0015", checked := Try.checked }
namespace Rows
def none {H : Type} : Left H := { results := [], args := [] }

/-- 'laws.FnExactPartsOf': WHATEVER THE INPUT: true; the input reads as it did. -/
def fnExactPartsOfSpec : ChangeSpec := { name := "fnExactPartsOf", fn := fun _ => fun
  | [d] => { results := [.lit (.bool true)], args := [d] }
  | _ => none }
def fnExactPartsOfRow : OpenClaim := { program := "ytdabhhlfnfjojaa", sum := "e73da3ee23b71e01a01f9da30ec0779ecae90888bc9a1795d601e8e67dae0015", func := "loop.example/g00324/laws.FnExactPartsOf", spec := "fnExactPartsOf", apart := false }
def FnExactPartsOfSaid : Prop := fnExactPartsOfRow.holds Try.pinned (OpenSpec.ofChange fnExactPartsOfSpec)

/-- ITS FALSE NEIGHBOUR: 'it returns false'. Refute it at one input. -/
def fnExactPartsOfWrong : ChangeSpec := { name := "fnExactPartsOf", fn := fun _ => fun
  | [d] => { results := [.lit (.bool false)], args := [d] }
  | _ => none }
def FnExactPartsOfWrongFalsely : Prop := fnExactPartsOfRow.holds Try.pinned (OpenSpec.ofChange fnExactPartsOfWrong)

/-- 'laws.FnTurned': WHATEVER THE INPUT: true; the input reads as it did. -/
def fnTurnedSpec : ChangeSpec := { name := "fnTurned", fn := fun _ => fun
  | [d] => { results := [.lit (.bool true)], args := [d] }
  | _ => none }
def fnTurnedRow : OpenClaim := { program := "ytdabhhlfnfjojaa", sum := "e73da3ee23b71e01a01f9da30ec0779ecae90888bc9a1795d601e8e67dae0015", func := "loop.example/g00324/laws.FnTurned", spec := "fnTurned", apart := false }
def FnTurnedSaid : Prop := fnTurnedRow.holds Try.pinned (OpenSpec.ofChange fnTurnedSpec)

/-- ITS FALSE NEIGHBOUR: 'it returns false'. Refute it at one input. -/
def fnTurnedWrong : ChangeSpec := { name := "fnTurned", fn := fun _ => fun
  | [d] => { results := [.lit (.bool false)], args := [d] }
  | _ => none }
def FnTurnedWrongFalsely : Prop := fnTurnedRow.holds Try.pinned (OpenSpec.ofChange fnTurnedWrong)

/-- 'laws.FnRegs': WHATEVER THE INPUT: true; the input reads as it did. -/
def fnRegsSpec : ChangeSpec := { name := "fnRegs", fn := fun _ => fun
  | [d] => { results := [.lit (.bool true)], args := [d] }
  | _ => none }
def fnRegsRow : OpenClaim := { program := "ytdabhhlfnfjojaa", sum := "e73da3ee23b71e01a01f9da30ec0779ecae90888bc9a1795d601e8e67dae0015", func := "loop.example/g00324/laws.FnRegs", spec := "fnRegs", apart := false }
def FnRegsSaid : Prop := fnRegsRow.holds Try.pinned (OpenSpec.ofChange fnRegsSpec)

/-- ITS FALSE NEIGHBOUR: 'it returns false'. Refute it at one input. -/
def fnRegsWrong : ChangeSpec := { name := "fnRegs", fn := fun _ => fun
  | [d] => { results := [.lit (.bool false)], args := [d] }
  | _ => none }
def FnRegsWrongFalsely : Prop := fnRegsRow.holds Try.pinned (OpenSpec.ofChange fnRegsWrong)

/-- 'laws.FnExactSameMail': WHATEVER THE INPUT: true; the input reads as it did. -/
def fnExactSameMailSpec : ChangeSpec := { name := "fnExactSameMail", fn := fun _ => fun
  | [d1, d2] => { results := [.lit (.bool true)], args := [d1, d2] }
  | _ => none }
def fnExactSameMailRow : OpenClaim := { program := "ytdabhhlfnfjojaa", sum := "e73da3ee23b71e01a01f9da30ec0779ecae90888bc9a1795d601e8e67dae0015", func := "loop.example/g00324/laws.FnExactSameMail", spec := "fnExactSameMail", apart := false }
def FnExactSameMailSaid : Prop := fnExactSameMailRow.holds Try.pinned (OpenSpec.ofChange fnExactSameMailSpec)

/-- ITS FALSE NEIGHBOUR: 'it returns false'. Refute it at one input. -/
def fnExactSameMailWrong : ChangeSpec := { name := "fnExactSameMail", fn := fun _ => fun
  | [d1, d2] => { results := [.lit (.bool false)], args := [d1, d2] }
  | _ => none }
def FnExactSameMailWrongFalsely : Prop := fnExactSameMailRow.holds Try.pinned (OpenSpec.ofChange fnExactSameMailWrong)

/-- 'laws.FnExactJoinFlags': WHATEVER THE INPUT: true; the input reads as it did. -/
def fnExactJoinFlagsSpec : ChangeSpec := { name := "fnExactJoinFlags", fn := fun _ => fun
  | [d1, d2] => { results := [.lit (.bool true)], args := [d1, d2] }
  | _ => none }
def fnExactJoinFlagsRow : OpenClaim := { program := "ytdabhhlfnfjojaa", sum := "e73da3ee23b71e01a01f9da30ec0779ecae90888bc9a1795d601e8e67dae0015", func := "loop.example/g00324/laws.FnExactJoinFlags", spec := "fnExactJoinFlags", apart := false }
def FnExactJoinFlagsSaid : Prop := fnExactJoinFlagsRow.holds Try.pinned (OpenSpec.ofChange fnExactJoinFlagsSpec)

/-- ITS FALSE NEIGHBOUR: 'it returns false'. Refute it at one input. -/
def fnExactJoinFlagsWrong : ChangeSpec := { name := "fnExactJoinFlags", fn := fun _ => fun
  | [d1, d2] => { results := [.lit (.bool false)], args := [d1, d2] }
  | _ => none }
def FnExactJoinFlagsWrongFalsely : Prop := fnExactJoinFlagsRow.holds Try.pinned (OpenSpec.ofChange fnExactJoinFlagsWrong)

/-- 'laws.FnExactMailOk': WHATEVER THE INPUT: true; the input reads as it did. -/
def fnExactMailOkSpec : ChangeSpec := { name := "fnExactMailOk", fn := fun _ => fun
  | [d] => { results := [.lit (.bool true)], args := [d] }
  | _ => none }
def fnExactMailOkRow : OpenClaim := { program := "ytdabhhlfnfjojaa", sum := "e73da3ee23b71e01a01f9da30ec0779ecae90888bc9a1795d601e8e67dae0015", func := "loop.example/g00324/laws.FnExactMailOk", spec := "fnExactMailOk", apart := false }
def FnExactMailOkSaid : Prop := fnExactMailOkRow.holds Try.pinned (OpenSpec.ofChange fnExactMailOkSpec)

/-- ITS FALSE NEIGHBOUR: 'it returns false'. Refute it at one input. -/
def fnExactMailOkWrong : ChangeSpec := { name := "fnExactMailOk", fn := fun _ => fun
  | [d] => { results := [.lit (.bool false)], args := [d] }
  | _ => none }
def FnExactMailOkWrongFalsely : Prop := fnExactMailOkRow.holds Try.pinned (OpenSpec.ofChange fnExactMailOkWrong)

/-- 'laws.FnExactSetFlags': WHATEVER THE INPUT: true; the input reads as it did. -/
def fnExactSetFlagsSpec : ChangeSpec := { name := "fnExactSetFlags", fn := fun _ => fun
  | [d1, d2, d3] => { results := [.lit (.bool true)], args := [d1, d2, d3] }
  | _ => none }
def fnExactSetFlagsRow : OpenClaim := { program := "ytdabhhlfnfjojaa", sum := "e73da3ee23b71e01a01f9da30ec0779ecae90888bc9a1795d601e8e67dae0015", func := "loop.example/g00324/laws.FnExactSetFlags", spec := "fnExactSetFlags", apart := false }
def FnExactSetFlagsSaid : Prop := fnExactSetFlagsRow.holds Try.pinned (OpenSpec.ofChange fnExactSetFlagsSpec)

/-- ITS FALSE NEIGHBOUR: 'it returns false'. Refute it at one input. -/
def fnExactSetFlagsWrong : ChangeSpec := { name := "fnExactSetFlags", fn := fun _ => fun
  | [d1, d2, d3] => { results := [.lit (.bool false)], args := [d1, d2, d3] }
  | _ => none }
def FnExactSetFlagsWrongFalsely : Prop := fnExactSetFlagsRow.holds Try.pinned (OpenSpec.ofChange fnExactSetFlagsWrong)

/-- 'laws.FnNumbers': WHATEVER THE INPUT: true; the input reads as it did. -/
def fnNumbersSpec : ChangeSpec := { name := "fnNumbers", fn := fun _ => fun
  | [d] => { results := [.lit (.bool true)], args := [d] }
  | _ => none }
def fnNumbersRow : OpenClaim := { program := "ytdabhhlfnfjojaa", sum := "e73da3ee23b71e01a01f9da30ec0779ecae90888bc9a1795d601e8e67dae0015", func := "loop.example/g00324/laws.FnNumbers", spec := "fnNumbers", apart := false }
def FnNumbersSaid : Prop := fnNumbersRow.holds Try.pinned (OpenSpec.ofChange fnNumbersSpec)

/-- ITS FALSE NEIGHBOUR: 'it returns false'. Refute it at one input. -/
def fnNumbersWrong : ChangeSpec := { name := "fnNumbers", fn := fun _ => fun
  | [d] => { results := [.lit (.bool false)], args := [d] }
  | _ => none }
def FnNumbersWrongFalsely : Prop := fnNumbersRow.holds Try.pinned (OpenSpec.ofChange fnNumbersWrong)

/-- 'laws.FnExactMailText': WHATEVER THE INPUT: true; the input reads as it did. -/
def fnExactMailTextSpec : ChangeSpec := { name := "fnExactMailText", fn := fun _ => fun
  | [d] => { results := [.lit (.bool true)], args := [d] }
  | _ => none }
def fnExactMailTextRow : OpenClaim := { program := "ytdabhhlfnfjojaa", sum := "e73da3ee23b71e01a01f9da30ec0779ecae90888bc9a1795d601e8e67dae0015", func := "loop.example/g00324/laws.FnExactMailText", spec := "fnExactMailText", apart := false }
def FnExactMailTextSaid : Prop := fnExactMailTextRow.holds Try.pinned (OpenSpec.ofChange fnExactMailTextSpec)

/-- ITS FALSE NEIGHBOUR: 'it returns false'. Refute it at one input. -/
def fnExactMailTextWrong : ChangeSpec := { name := "fnExactMailText", fn := fun _ => fun
  | [d] => { results := [.lit (.bool false)], args := [d] }
  | _ => none }
def FnExactMailTextWrongFalsely : Prop := fnExactMailTextRow.holds Try.pinned (OpenSpec.ofChange fnExactMailTextWrong)

/-- 'laws.FnExactJoinMail': WHATEVER THE INPUT: true; the input reads as it did. -/
def fnExactJoinMailSpec : ChangeSpec := { name := "fnExactJoinMail", fn := fun _ => fun
  | [d1, d2] => { results := [.lit (.bool true)], args := [d1, d2] }
  | _ => none }
def fnExactJoinMailRow : OpenClaim := { program := "ytdabhhlfnfjojaa", sum := "e73da3ee23b71e01a01f9da30ec0779ecae90888bc9a1795d601e8e67dae0015", func := "loop.example/g00324/laws.FnExactJoinMail", spec := "fnExactJoinMail", apart := false }
def FnExactJoinMailSaid : Prop := fnExactJoinMailRow.holds Try.pinned (OpenSpec.ofChange fnExactJoinMailSpec)

/-- ITS FALSE NEIGHBOUR: 'it returns false'. Refute it at one input. -/
def fnExactJoinMailWrong : ChangeSpec := { name := "fnExactJoinMail", fn := fun _ => fun
  | [d1, d2] => { results := [.lit (.bool false)], args := [d1, d2] }
  | _ => none }
def FnExactJoinMailWrongFalsely : Prop := fnExactJoinMailRow.holds Try.pinned (OpenSpec.ofChange fnExactJoinMailWrong)

/-- 'laws.FnExactMailAt': WHATEVER THE INPUT: true; the input reads as it did. -/
def fnExactMailAtSpec : ChangeSpec := { name := "fnExactMailAt", fn := fun _ => fun
  | [d1, d2] => { results := [.lit (.bool true)], args := [d1, d2] }
  | _ => none }
def fnExactMailAtRow : OpenClaim := { program := "ytdabhhlfnfjojaa", sum := "e73da3ee23b71e01a01f9da30ec0779ecae90888bc9a1795d601e8e67dae0015", func := "loop.example/g00324/laws.FnExactMailAt", spec := "fnExactMailAt", unfollowed := true, recurses := true, apart := false }
def FnExactMailAtSaid : Prop := fnExactMailAtRow.holds Try.pinned (OpenSpec.ofChange fnExactMailAtSpec)

/-- ITS FALSE NEIGHBOUR: 'it returns false'. Refute it at one input. -/
def fnExactMailAtWrong : ChangeSpec := { name := "fnExactMailAt", fn := fun _ => fun
  | [d1, d2] => { results := [.lit (.bool false)], args := [d1, d2] }
  | _ => none }
def FnExactMailAtWrongFalsely : Prop := fnExactMailAtRow.holds Try.pinned (OpenSpec.ofChange fnExactMailAtWrong)

/-- 'laws.FnFlags': WHATEVER THE INPUT: true; the input reads as it did. -/
def fnFlagsSpec : ChangeSpec := { name := "fnFlags", fn := fun _ => fun
  | [d] => { results := [.lit (.bool true)], args := [d] }
  | _ => none }
def fnFlagsRow : OpenClaim := { program := "ytdabhhlfnfjojaa", sum := "e73da3ee23b71e01a01f9da30ec0779ecae90888bc9a1795d601e8e67dae0015", func := "loop.example/g00324/laws.FnFlags", spec := "fnFlags", apart := false }
def FnFlagsSaid : Prop := fnFlagsRow.holds Try.pinned (OpenSpec.ofChange fnFlagsSpec)

/-- ITS FALSE NEIGHBOUR: 'it returns false'. Refute it at one input. -/
def fnFlagsWrong : ChangeSpec := { name := "fnFlags", fn := fun _ => fun
  | [d] => { results := [.lit (.bool false)], args := [d] }
  | _ => none }
def FnFlagsWrongFalsely : Prop := fnFlagsRow.holds Try.pinned (OpenSpec.ofChange fnFlagsWrong)

/- THE SECOND FORM. 'bulk': how many values and letters a reading holds, each counted each time it is reached (what is shared counts as often as it is met; a slice's spare places count too). A statement '..UptoSaid' is the law's where the arguments, and the package variables that the reading takes, are together of bulk at most 1048576: NARROWER than '..Said'. Prove '..Said' where nothing that the law and all that it calls make is longer than what came in: it says more and counts as full. Else prove '..UptoSaid'. A law counts once. -/
mutual
def uptoBulk {H : Type} : DataW H → Nat
  | .lit (.string bytes) => bytes.length + 1
  | .lit _ => 1
  | .nil => 1
  | .ptr d => uptoBulk d + 1
  | .slice elems spare => uptoBulkAll elems + uptoBulkAll spare + 1
  | .agg parts => uptoBulkAll parts + 1
  | .iface _ d => uptoBulk d + 1
  | .map entries => uptoBulkEntries entries + 1
  | .held _ => 1
def uptoBulkAll {H : Type} : List (DataW H) → Nat
  | [] => 0
  | d :: r => uptoBulk d + uptoBulkAll r
def uptoBulkEntries {H : Type} : List (Lit × DataW H) → Nat
  | [] => 0
  | x :: r => uptoBulkEntry x + uptoBulkEntries r
def uptoBulkEntry {H : Type} : Lit × DataW H → Nat
  | (.string bytes, d) => bytes.length + uptoBulk d + 1
  | (_, d) => uptoBulk d + 1
 end
def uptoSmall : (H : Type) → List (DataW H) → Bool := fun _ ds => decide (uptoBulkAll ds ≤ 1048576)
def OpenSpec.upto (s : _root_.Go.ChangeSpec) : _root_.Go.OpenSpec := { _root_.Go.OpenSpec.ofChange s with cond := some uptoSmall }

/-- 'laws.FnExactPartsOf', WHERE WHAT IT READS IS OF BULK AT MOST 1048576: true; the input reads as it did. -/
def fnExactPartsOfUptoRow : OpenClaim := { program := "ytdabhhlfnfjojaa", sum := "e73da3ee23b71e01a01f9da30ec0779ecae90888bc9a1795d601e8e67dae0015", func := "loop.example/g00324/laws.FnExactPartsOf", spec := "fnExactPartsOf", apart := false, narrowed := true }
def FnExactPartsOfUptoSaid : Prop := fnExactPartsOfUptoRow.holds Try.pinned (OpenSpec.upto fnExactPartsOfSpec)

/-- 'laws.FnTurned', WHERE WHAT IT READS IS OF BULK AT MOST 1048576: true; the input reads as it did. -/
def fnTurnedUptoRow : OpenClaim := { program := "ytdabhhlfnfjojaa", sum := "e73da3ee23b71e01a01f9da30ec0779ecae90888bc9a1795d601e8e67dae0015", func := "loop.example/g00324/laws.FnTurned", spec := "fnTurned", apart := false, narrowed := true }
def FnTurnedUptoSaid : Prop := fnTurnedUptoRow.holds Try.pinned (OpenSpec.upto fnTurnedSpec)

/-- 'laws.FnRegs', WHERE WHAT IT READS IS OF BULK AT MOST 1048576: true; the input reads as it did. -/
def fnRegsUptoRow : OpenClaim := { program := "ytdabhhlfnfjojaa", sum := "e73da3ee23b71e01a01f9da30ec0779ecae90888bc9a1795d601e8e67dae0015", func := "loop.example/g00324/laws.FnRegs", spec := "fnRegs", apart := false, narrowed := true }
def FnRegsUptoSaid : Prop := fnRegsUptoRow.holds Try.pinned (OpenSpec.upto fnRegsSpec)

/-- 'laws.FnExactSameMail', WHERE WHAT IT READS IS OF BULK AT MOST 1048576: true; the input reads as it did. -/
def fnExactSameMailUptoRow : OpenClaim := { program := "ytdabhhlfnfjojaa", sum := "e73da3ee23b71e01a01f9da30ec0779ecae90888bc9a1795d601e8e67dae0015", func := "loop.example/g00324/laws.FnExactSameMail", spec := "fnExactSameMail", apart := false, narrowed := true }
def FnExactSameMailUptoSaid : Prop := fnExactSameMailUptoRow.holds Try.pinned (OpenSpec.upto fnExactSameMailSpec)

/-- 'laws.FnExactJoinFlags', WHERE WHAT IT READS IS OF BULK AT MOST 1048576: true; the input reads as it did. -/
def fnExactJoinFlagsUptoRow : OpenClaim := { program := "ytdabhhlfnfjojaa", sum := "e73da3ee23b71e01a01f9da30ec0779ecae90888bc9a1795d601e8e67dae0015", func := "loop.example/g00324/laws.FnExactJoinFlags", spec := "fnExactJoinFlags", apart := false, narrowed := true }
def FnExactJoinFlagsUptoSaid : Prop := fnExactJoinFlagsUptoRow.holds Try.pinned (OpenSpec.upto fnExactJoinFlagsSpec)

/-- 'laws.FnExactMailOk', WHERE WHAT IT READS IS OF BULK AT MOST 1048576: true; the input reads as it did. -/
def fnExactMailOkUptoRow : OpenClaim := { program := "ytdabhhlfnfjojaa", sum := "e73da3ee23b71e01a01f9da30ec0779ecae90888bc9a1795d601e8e67dae0015", func := "loop.example/g00324/laws.FnExactMailOk", spec := "fnExactMailOk", apart := false, narrowed := true }
def FnExactMailOkUptoSaid : Prop := fnExactMailOkUptoRow.holds Try.pinned (OpenSpec.upto fnExactMailOkSpec)

/-- 'laws.FnExactSetFlags', WHERE WHAT IT READS IS OF BULK AT MOST 1048576: true; the input reads as it did. -/
def fnExactSetFlagsUptoRow : OpenClaim := { program := "ytdabhhlfnfjojaa", sum := "e73da3ee23b71e01a01f9da30ec0779ecae90888bc9a1795d601e8e67dae0015", func := "loop.example/g00324/laws.FnExactSetFlags", spec := "fnExactSetFlags", apart := false, narrowed := true }
def FnExactSetFlagsUptoSaid : Prop := fnExactSetFlagsUptoRow.holds Try.pinned (OpenSpec.upto fnExactSetFlagsSpec)

/-- 'laws.FnNumbers', WHERE WHAT IT READS IS OF BULK AT MOST 1048576: true; the input reads as it did. -/
def fnNumbersUptoRow : OpenClaim := { program := "ytdabhhlfnfjojaa", sum := "e73da3ee23b71e01a01f9da30ec0779ecae90888bc9a1795d601e8e67dae0015", func := "loop.example/g00324/laws.FnNumbers", spec := "fnNumbers", apart := false, narrowed := true }
def FnNumbersUptoSaid : Prop := fnNumbersUptoRow.holds Try.pinned (OpenSpec.upto fnNumbersSpec)

/-- 'laws.FnExactMailText', WHERE WHAT IT READS IS OF BULK AT MOST 1048576: true; the input reads as it did. -/
def fnExactMailTextUptoRow : OpenClaim := { program := "ytdabhhlfnfjojaa", sum := "e73da3ee23b71e01a01f9da30ec0779ecae90888bc9a1795d601e8e67dae0015", func := "loop.example/g00324/laws.FnExactMailText", spec := "fnExactMailText", apart := false, narrowed := true }
def FnExactMailTextUptoSaid : Prop := fnExactMailTextUptoRow.holds Try.pinned (OpenSpec.upto fnExactMailTextSpec)

/-- 'laws.FnExactJoinMail', WHERE WHAT IT READS IS OF BULK AT MOST 1048576: true; the input reads as it did. -/
def fnExactJoinMailUptoRow : OpenClaim := { program := "ytdabhhlfnfjojaa", sum := "e73da3ee23b71e01a01f9da30ec0779ecae90888bc9a1795d601e8e67dae0015", func := "loop.example/g00324/laws.FnExactJoinMail", spec := "fnExactJoinMail", apart := false, narrowed := true }
def FnExactJoinMailUptoSaid : Prop := fnExactJoinMailUptoRow.holds Try.pinned (OpenSpec.upto fnExactJoinMailSpec)

/-- 'laws.FnExactMailAt', WHERE WHAT IT READS IS OF BULK AT MOST 1048576: true; the input reads as it did. -/
def fnExactMailAtUptoRow : OpenClaim := { program := "ytdabhhlfnfjojaa", sum := "e73da3ee23b71e01a01f9da30ec0779ecae90888bc9a1795d601e8e67dae0015", func := "loop.example/g00324/laws.FnExactMailAt", spec := "fnExactMailAt", unfollowed := true, recurses := true, apart := false, narrowed := true }
def FnExactMailAtUptoSaid : Prop := fnExactMailAtUptoRow.holds Try.pinned (OpenSpec.upto fnExactMailAtSpec)

/-- 'laws.FnFlags', WHERE WHAT IT READS IS OF BULK AT MOST 1048576: true; the input reads as it did. -/
def fnFlagsUptoRow : OpenClaim := { program := "ytdabhhlfnfjojaa", sum := "e73da3ee23b71e01a01f9da30ec0779ecae90888bc9a1795d601e8e67dae0015", func := "loop.example/g00324/laws.FnFlags", spec := "fnFlags", apart := false, narrowed := true }
def FnFlagsUptoSaid : Prop := fnFlagsUptoRow.holds Try.pinned (OpenSpec.upto fnFlagsSpec)

end Rows
end Go.Proofs.Ytdabhhlfnfjojaa
