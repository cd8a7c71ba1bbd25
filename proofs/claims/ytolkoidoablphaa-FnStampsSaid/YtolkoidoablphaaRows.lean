/-
  No cell of these rows narrows 'for every input' (looked for: loops, veiled, ifaces, maps, wideKeys, modest, calm, conditions, laid).
  DERIVED. THE GIVEN ROWS OF THIS SEAT. 12 by the template 'for every input the law returns true; each argument reads behind the call as it read before'; 0 by the template 'total and deterministic' (their statements: YtolkoidoablphaaTotals.lean).
  GIVEN WITH THE SEED: the statements are not yours to turn. If you find one false, say at which input.
  Laid BY PROGRAM, IN A SANDBOX (cutbox-rows.mjs): the forced cells as the released guide's own fill.sh prints them over the translation 0d3e6b514b3d302d… (all of the seat's roots in one cut). By AI agents, Wed Nov 11 2026. No macro, syntax, notation, axiom, sorry.
-/
import Derived.Test.YtolkoidoablphaaChecked
import GoSem.Claim
import GoSem.ClaimJoined
import GoSem.ClaimMapViews
import Derived.JoinedTies
import Derived.KernelRfl
namespace Go.Proofs.Ytolkoidoablphaa
/- THE CELL 'sum', in the pinned program and in every row, IS THE sha256 OF THE DUMP (.gsa) THAT YtolkoidoablphaaProg.lean LOADS. Nothing in Lean hashes anything: it is a label: what it is worth is what the hold of that sum in a sandbox is worth. -/
noncomputable def Try.pinned : Pinned := { name := "ytolkoidoablphaa", sum := "0d3e6b514b3d302d707c5cd306831e6c7a3b600ab65906304e866cb69e86303a", checked := Try.checked }
namespace Rows
def none {H : Type} : Left H := { results := [], args := [] }

/-- 'laws.FnExactSealed': WHATEVER THE INPUT: true; the input reads as it did. -/
def fnExactSealedSpec : ChangeSpec := { name := "fnExactSealed", fn := fun _ => fun
  | [d] => { results := [.lit (.bool true)], args := [d] }
  | _ => none }
def fnExactSealedRow : OpenClaim := { program := "ytolkoidoablphaa", sum := "0d3e6b514b3d302d707c5cd306831e6c7a3b600ab65906304e866cb69e86303a", func := "loop.example/g00324/laws.FnExactSealed", spec := "fnExactSealed", apart := false }
def FnExactSealedSaid : Prop := fnExactSealedRow.holds Try.pinned (OpenSpec.ofChange fnExactSealedSpec)

/-- ITS FALSE NEIGHBOUR: 'it returns false'. Refute it at one input. -/
def fnExactSealedWrong : ChangeSpec := { name := "fnExactSealed", fn := fun _ => fun
  | [d] => { results := [.lit (.bool false)], args := [d] }
  | _ => none }
def FnExactSealedWrongFalsely : Prop := fnExactSealedRow.holds Try.pinned (OpenSpec.ofChange fnExactSealedWrong)

/-- 'laws.FnExactUnhex': WHATEVER THE INPUT: true; the input reads as it did. -/
def fnExactUnhexSpec : ChangeSpec := { name := "fnExactUnhex", fn := fun _ => fun
  | [d] => { results := [.lit (.bool true)], args := [d] }
  | _ => none }
def fnExactUnhexRow : OpenClaim := { program := "ytolkoidoablphaa", sum := "0d3e6b514b3d302d707c5cd306831e6c7a3b600ab65906304e866cb69e86303a", func := "loop.example/g00324/laws.FnExactUnhex", spec := "fnExactUnhex", apart := false }
def FnExactUnhexSaid : Prop := fnExactUnhexRow.holds Try.pinned (OpenSpec.ofChange fnExactUnhexSpec)

/-- ITS FALSE NEIGHBOUR: 'it returns false'. Refute it at one input. -/
def fnExactUnhexWrong : ChangeSpec := { name := "fnExactUnhex", fn := fun _ => fun
  | [d] => { results := [.lit (.bool false)], args := [d] }
  | _ => none }
def FnExactUnhexWrongFalsely : Prop := fnExactUnhexRow.holds Try.pinned (OpenSpec.ofChange fnExactUnhexWrong)

/-- 'laws.FnExactJoinReg': WHATEVER THE INPUT: true; the input reads as it did. -/
def fnExactJoinRegSpec : ChangeSpec := { name := "fnExactJoinReg", fn := fun _ => fun
  | [d1, d2] => { results := [.lit (.bool true)], args := [d1, d2] }
  | _ => none }
def fnExactJoinRegRow : OpenClaim := { program := "ytolkoidoablphaa", sum := "0d3e6b514b3d302d707c5cd306831e6c7a3b600ab65906304e866cb69e86303a", func := "loop.example/g00324/laws.FnExactJoinReg", spec := "fnExactJoinReg", apart := false }
def FnExactJoinRegSaid : Prop := fnExactJoinRegRow.holds Try.pinned (OpenSpec.ofChange fnExactJoinRegSpec)

/-- ITS FALSE NEIGHBOUR: 'it returns false'. Refute it at one input. -/
def fnExactJoinRegWrong : ChangeSpec := { name := "fnExactJoinReg", fn := fun _ => fun
  | [d1, d2] => { results := [.lit (.bool false)], args := [d1, d2] }
  | _ => none }
def FnExactJoinRegWrongFalsely : Prop := fnExactJoinRegRow.holds Try.pinned (OpenSpec.ofChange fnExactJoinRegWrong)

/-- 'laws.FnExactUnsealed': WHATEVER THE INPUT: true; the input reads as it did. -/
def fnExactUnsealedSpec : ChangeSpec := { name := "fnExactUnsealed", fn := fun _ => fun
  | [d] => { results := [.lit (.bool true)], args := [d] }
  | _ => none }
def fnExactUnsealedRow : OpenClaim := { program := "ytolkoidoablphaa", sum := "0d3e6b514b3d302d707c5cd306831e6c7a3b600ab65906304e866cb69e86303a", func := "loop.example/g00324/laws.FnExactUnsealed", spec := "fnExactUnsealed", apart := false }
def FnExactUnsealedSaid : Prop := fnExactUnsealedRow.holds Try.pinned (OpenSpec.ofChange fnExactUnsealedSpec)

/-- ITS FALSE NEIGHBOUR: 'it returns false'. Refute it at one input. -/
def fnExactUnsealedWrong : ChangeSpec := { name := "fnExactUnsealed", fn := fun _ => fun
  | [d] => { results := [.lit (.bool false)], args := [d] }
  | _ => none }
def FnExactUnsealedWrongFalsely : Prop := fnExactUnsealedRow.holds Try.pinned (OpenSpec.ofChange fnExactUnsealedWrong)

/-- 'laws.FnExactReadVar': WHATEVER THE INPUT: true; the input reads as it did. -/
def fnExactReadVarSpec : ChangeSpec := { name := "fnExactReadVar", fn := fun _ => fun
  | [d1, d2] => { results := [.lit (.bool true)], args := [d1, d2] }
  | _ => none }
def fnExactReadVarRow : OpenClaim := { program := "ytolkoidoablphaa", sum := "0d3e6b514b3d302d707c5cd306831e6c7a3b600ab65906304e866cb69e86303a", func := "loop.example/g00324/laws.FnExactReadVar", spec := "fnExactReadVar", apart := false }
def FnExactReadVarSaid : Prop := fnExactReadVarRow.holds Try.pinned (OpenSpec.ofChange fnExactReadVarSpec)

/-- ITS FALSE NEIGHBOUR: 'it returns false'. Refute it at one input. -/
def fnExactReadVarWrong : ChangeSpec := { name := "fnExactReadVar", fn := fun _ => fun
  | [d1, d2] => { results := [.lit (.bool false)], args := [d1, d2] }
  | _ => none }
def FnExactReadVarWrongFalsely : Prop := fnExactReadVarRow.holds Try.pinned (OpenSpec.ofChange fnExactReadVarWrong)

/-- 'laws.FnExactPutReg': WHATEVER THE INPUT: true; the input reads as it did. -/
def fnExactPutRegSpec : ChangeSpec := { name := "fnExactPutReg", fn := fun _ => fun
  | [d1, d2, d3] => { results := [.lit (.bool true)], args := [d1, d2, d3] }
  | _ => none }
def fnExactPutRegRow : OpenClaim := { program := "ytolkoidoablphaa", sum := "0d3e6b514b3d302d707c5cd306831e6c7a3b600ab65906304e866cb69e86303a", func := "loop.example/g00324/laws.FnExactPutReg", spec := "fnExactPutReg", apart := false }
def FnExactPutRegSaid : Prop := fnExactPutRegRow.holds Try.pinned (OpenSpec.ofChange fnExactPutRegSpec)

/-- ITS FALSE NEIGHBOUR: 'it returns false'. Refute it at one input. -/
def fnExactPutRegWrong : ChangeSpec := { name := "fnExactPutReg", fn := fun _ => fun
  | [d1, d2, d3] => { results := [.lit (.bool false)], args := [d1, d2, d3] }
  | _ => none }
def FnExactPutRegWrongFalsely : Prop := fnExactPutRegRow.holds Try.pinned (OpenSpec.ofChange fnExactPutRegWrong)

/-- 'laws.FnStamps': WHATEVER THE INPUT: true; the input reads as it did. -/
def fnStampsSpec : ChangeSpec := { name := "fnStamps", fn := fun _ => fun
  | [d] => { results := [.lit (.bool true)], args := [d] }
  | _ => none }
def fnStampsRow : OpenClaim := { program := "ytolkoidoablphaa", sum := "0d3e6b514b3d302d707c5cd306831e6c7a3b600ab65906304e866cb69e86303a", func := "loop.example/g00324/laws.FnStamps", spec := "fnStamps", apart := false }
def FnStampsSaid : Prop := fnStampsRow.holds Try.pinned (OpenSpec.ofChange fnStampsSpec)

/-- ITS FALSE NEIGHBOUR: 'it returns false'. Refute it at one input. -/
def fnStampsWrong : ChangeSpec := { name := "fnStamps", fn := fun _ => fun
  | [d] => { results := [.lit (.bool false)], args := [d] }
  | _ => none }
def FnStampsWrongFalsely : Prop := fnStampsRow.holds Try.pinned (OpenSpec.ofChange fnStampsWrong)

/-- 'laws.FnExactReadShort': WHATEVER THE INPUT: true; the input reads as it did. -/
def fnExactReadShortSpec : ChangeSpec := { name := "fnExactReadShort", fn := fun _ => fun
  | [d1, d2] => { results := [.lit (.bool true)], args := [d1, d2] }
  | _ => none }
def fnExactReadShortRow : OpenClaim := { program := "ytolkoidoablphaa", sum := "0d3e6b514b3d302d707c5cd306831e6c7a3b600ab65906304e866cb69e86303a", func := "loop.example/g00324/laws.FnExactReadShort", spec := "fnExactReadShort", apart := false }
def FnExactReadShortSaid : Prop := fnExactReadShortRow.holds Try.pinned (OpenSpec.ofChange fnExactReadShortSpec)

/-- ITS FALSE NEIGHBOUR: 'it returns false'. Refute it at one input. -/
def fnExactReadShortWrong : ChangeSpec := { name := "fnExactReadShort", fn := fun _ => fun
  | [d1, d2] => { results := [.lit (.bool false)], args := [d1, d2] }
  | _ => none }
def FnExactReadShortWrongFalsely : Prop := fnExactReadShortRow.holds Try.pinned (OpenSpec.ofChange fnExactReadShortWrong)

/-- 'laws.FnExactFlagsOf': WHATEVER THE INPUT: true; the input reads as it did. -/
def fnExactFlagsOfSpec : ChangeSpec := { name := "fnExactFlagsOf", fn := fun _ => fun
  | [d] => { results := [.lit (.bool true)], args := [d] }
  | _ => none }
def fnExactFlagsOfRow : OpenClaim := { program := "ytolkoidoablphaa", sum := "0d3e6b514b3d302d707c5cd306831e6c7a3b600ab65906304e866cb69e86303a", func := "loop.example/g00324/laws.FnExactFlagsOf", spec := "fnExactFlagsOf", apart := false }
def FnExactFlagsOfSaid : Prop := fnExactFlagsOfRow.holds Try.pinned (OpenSpec.ofChange fnExactFlagsOfSpec)

/-- ITS FALSE NEIGHBOUR: 'it returns false'. Refute it at one input. -/
def fnExactFlagsOfWrong : ChangeSpec := { name := "fnExactFlagsOf", fn := fun _ => fun
  | [d] => { results := [.lit (.bool false)], args := [d] }
  | _ => none }
def FnExactFlagsOfWrongFalsely : Prop := fnExactFlagsOfRow.holds Try.pinned (OpenSpec.ofChange fnExactFlagsOfWrong)

/-- 'laws.FnExactReadDecimal': WHATEVER THE INPUT: true; the input reads as it did. -/
def fnExactReadDecimalSpec : ChangeSpec := { name := "fnExactReadDecimal", fn := fun _ => fun
  | [d] => { results := [.lit (.bool true)], args := [d] }
  | _ => none }
def fnExactReadDecimalRow : OpenClaim := { program := "ytolkoidoablphaa", sum := "0d3e6b514b3d302d707c5cd306831e6c7a3b600ab65906304e866cb69e86303a", func := "loop.example/g00324/laws.FnExactReadDecimal", spec := "fnExactReadDecimal", apart := false }
def FnExactReadDecimalSaid : Prop := fnExactReadDecimalRow.holds Try.pinned (OpenSpec.ofChange fnExactReadDecimalSpec)

/-- ITS FALSE NEIGHBOUR: 'it returns false'. Refute it at one input. -/
def fnExactReadDecimalWrong : ChangeSpec := { name := "fnExactReadDecimal", fn := fun _ => fun
  | [d] => { results := [.lit (.bool false)], args := [d] }
  | _ => none }
def FnExactReadDecimalWrongFalsely : Prop := fnExactReadDecimalRow.holds Try.pinned (OpenSpec.ofChange fnExactReadDecimalWrong)

/-- 'laws.FnExactFlagsOk': WHATEVER THE INPUT: true; the input reads as it did. -/
def fnExactFlagsOkSpec : ChangeSpec := { name := "fnExactFlagsOk", fn := fun _ => fun
  | [d] => { results := [.lit (.bool true)], args := [d] }
  | _ => none }
def fnExactFlagsOkRow : OpenClaim := { program := "ytolkoidoablphaa", sum := "0d3e6b514b3d302d707c5cd306831e6c7a3b600ab65906304e866cb69e86303a", func := "loop.example/g00324/laws.FnExactFlagsOk", spec := "fnExactFlagsOk", apart := false }
def FnExactFlagsOkSaid : Prop := fnExactFlagsOkRow.holds Try.pinned (OpenSpec.ofChange fnExactFlagsOkSpec)

/-- ITS FALSE NEIGHBOUR: 'it returns false'. Refute it at one input. -/
def fnExactFlagsOkWrong : ChangeSpec := { name := "fnExactFlagsOk", fn := fun _ => fun
  | [d] => { results := [.lit (.bool false)], args := [d] }
  | _ => none }
def FnExactFlagsOkWrongFalsely : Prop := fnExactFlagsOkRow.holds Try.pinned (OpenSpec.ofChange fnExactFlagsOkWrong)

/-- 'laws.FnExactFlagsNew': WHATEVER THE INPUT: true; the input reads as it did. -/
def fnExactFlagsNewSpec : ChangeSpec := { name := "fnExactFlagsNew", fn := fun _ => fun
  | [d1, d2] => { results := [.lit (.bool true)], args := [d1, d2] }
  | _ => none }
def fnExactFlagsNewRow : OpenClaim := { program := "ytolkoidoablphaa", sum := "0d3e6b514b3d302d707c5cd306831e6c7a3b600ab65906304e866cb69e86303a", func := "loop.example/g00324/laws.FnExactFlagsNew", spec := "fnExactFlagsNew", apart := false }
def FnExactFlagsNewSaid : Prop := fnExactFlagsNewRow.holds Try.pinned (OpenSpec.ofChange fnExactFlagsNewSpec)

/-- ITS FALSE NEIGHBOUR: 'it returns false'. Refute it at one input. -/
def fnExactFlagsNewWrong : ChangeSpec := { name := "fnExactFlagsNew", fn := fun _ => fun
  | [d1, d2] => { results := [.lit (.bool false)], args := [d1, d2] }
  | _ => none }
def FnExactFlagsNewWrongFalsely : Prop := fnExactFlagsNewRow.holds Try.pinned (OpenSpec.ofChange fnExactFlagsNewWrong)

/- THE SECOND FORM. 'bulk': how many values and letters a reading holds, each counted each time it is reached (what is shared counts as often as it is met; a slice's spare places count too). A statement '..UptoSaid' is the law's where the arguments, and the package variables that the reading takes, are together of bulk at most 1048576: NARROWER than '..Said'. Prove '..Said' where nothing that the law and all that it calls make is longer than what came in: it says more and counts as full. Else prove '..UptoSaid'. A law counts once. -/
mutual
def uptoBulk {H : Type} : DataW H → Nat
  | .lit (.string bytes) => bytes.length + 1
  | .lit _ => 1
  | .nil => 1
  | .ptr d => uptoBulk d + 1
  | .slice elems spare => uptoBulkAll elems + uptoBulkAll spare + 1
  | .agg parts => uptoBulkAll parts + 1
  | .iface _ d => uptoBulk d + 1
  | .map entries => uptoBulkEntries entries + 1
  | .held _ => 1
def uptoBulkAll {H : Type} : List (DataW H) → Nat
  | [] => 0
  | d :: r => uptoBulk d + uptoBulkAll r
def uptoBulkEntries {H : Type} : List (Lit × DataW H) → Nat
  | [] => 0
  | x :: r => uptoBulkEntry x + uptoBulkEntries r
def uptoBulkEntry {H : Type} : Lit × DataW H → Nat
  | (.string bytes, d) => bytes.length + uptoBulk d + 1
  | (_, d) => uptoBulk d + 1
 end
def uptoSmall : (H : Type) → List (DataW H) → Bool := fun _ ds => decide (uptoBulkAll ds ≤ 1048576)
def OpenSpec.upto (s : _root_.Go.ChangeSpec) : _root_.Go.OpenSpec := { _root_.Go.OpenSpec.ofChange s with cond := some uptoSmall }

/-- 'laws.FnExactSealed', WHERE WHAT IT READS IS OF BULK AT MOST 1048576: true; the input reads as it did. -/
def fnExactSealedUptoRow : OpenClaim := { program := "ytolkoidoablphaa", sum := "0d3e6b514b3d302d707c5cd306831e6c7a3b600ab65906304e866cb69e86303a", func := "loop.example/g00324/laws.FnExactSealed", spec := "fnExactSealed", apart := false, narrowed := true }
def FnExactSealedUptoSaid : Prop := fnExactSealedUptoRow.holds Try.pinned (OpenSpec.upto fnExactSealedSpec)

/-- 'laws.FnExactUnhex', WHERE WHAT IT READS IS OF BULK AT MOST 1048576: true; the input reads as it did. -/
def fnExactUnhexUptoRow : OpenClaim := { program := "ytolkoidoablphaa", sum := "0d3e6b514b3d302d707c5cd306831e6c7a3b600ab65906304e866cb69e86303a", func := "loop.example/g00324/laws.FnExactUnhex", spec := "fnExactUnhex", apart := false, narrowed := true }
def FnExactUnhexUptoSaid : Prop := fnExactUnhexUptoRow.holds Try.pinned (OpenSpec.upto fnExactUnhexSpec)

/-- 'laws.FnExactJoinReg', WHERE WHAT IT READS IS OF BULK AT MOST 1048576: true; the input reads as it did. -/
def fnExactJoinRegUptoRow : OpenClaim := { program := "ytolkoidoablphaa", sum := "0d3e6b514b3d302d707c5cd306831e6c7a3b600ab65906304e866cb69e86303a", func := "loop.example/g00324/laws.FnExactJoinReg", spec := "fnExactJoinReg", apart := false, narrowed := true }
def FnExactJoinRegUptoSaid : Prop := fnExactJoinRegUptoRow.holds Try.pinned (OpenSpec.upto fnExactJoinRegSpec)

/-- 'laws.FnExactUnsealed', WHERE WHAT IT READS IS OF BULK AT MOST 1048576: true; the input reads as it did. -/
def fnExactUnsealedUptoRow : OpenClaim := { program := "ytolkoidoablphaa", sum := "0d3e6b514b3d302d707c5cd306831e6c7a3b600ab65906304e866cb69e86303a", func := "loop.example/g00324/laws.FnExactUnsealed", spec := "fnExactUnsealed", apart := false, narrowed := true }
def FnExactUnsealedUptoSaid : Prop := fnExactUnsealedUptoRow.holds Try.pinned (OpenSpec.upto fnExactUnsealedSpec)

/-- 'laws.FnExactReadVar', WHERE WHAT IT READS IS OF BULK AT MOST 1048576: true; the input reads as it did. -/
def fnExactReadVarUptoRow : OpenClaim := { program := "ytolkoidoablphaa", sum := "0d3e6b514b3d302d707c5cd306831e6c7a3b600ab65906304e866cb69e86303a", func := "loop.example/g00324/laws.FnExactReadVar", spec := "fnExactReadVar", apart := false, narrowed := true }
def FnExactReadVarUptoSaid : Prop := fnExactReadVarUptoRow.holds Try.pinned (OpenSpec.upto fnExactReadVarSpec)

/-- 'laws.FnExactPutReg', WHERE WHAT IT READS IS OF BULK AT MOST 1048576: true; the input reads as it did. -/
def fnExactPutRegUptoRow : OpenClaim := { program := "ytolkoidoablphaa", sum := "0d3e6b514b3d302d707c5cd306831e6c7a3b600ab65906304e866cb69e86303a", func := "loop.example/g00324/laws.FnExactPutReg", spec := "fnExactPutReg", apart := false, narrowed := true }
def FnExactPutRegUptoSaid : Prop := fnExactPutRegUptoRow.holds Try.pinned (OpenSpec.upto fnExactPutRegSpec)

/-- 'laws.FnStamps', WHERE WHAT IT READS IS OF BULK AT MOST 1048576: true; the input reads as it did. -/
def fnStampsUptoRow : OpenClaim := { program := "ytolkoidoablphaa", sum := "0d3e6b514b3d302d707c5cd306831e6c7a3b600ab65906304e866cb69e86303a", func := "loop.example/g00324/laws.FnStamps", spec := "fnStamps", apart := false, narrowed := true }
def FnStampsUptoSaid : Prop := fnStampsUptoRow.holds Try.pinned (OpenSpec.upto fnStampsSpec)

/-- 'laws.FnExactReadShort', WHERE WHAT IT READS IS OF BULK AT MOST 1048576: true; the input reads as it did. -/
def fnExactReadShortUptoRow : OpenClaim := { program := "ytolkoidoablphaa", sum := "0d3e6b514b3d302d707c5cd306831e6c7a3b600ab65906304e866cb69e86303a", func := "loop.example/g00324/laws.FnExactReadShort", spec := "fnExactReadShort", apart := false, narrowed := true }
def FnExactReadShortUptoSaid : Prop := fnExactReadShortUptoRow.holds Try.pinned (OpenSpec.upto fnExactReadShortSpec)

/-- 'laws.FnExactFlagsOf', WHERE WHAT IT READS IS OF BULK AT MOST 1048576: true; the input reads as it did. -/
def fnExactFlagsOfUptoRow : OpenClaim := { program := "ytolkoidoablphaa", sum := "0d3e6b514b3d302d707c5cd306831e6c7a3b600ab65906304e866cb69e86303a", func := "loop.example/g00324/laws.FnExactFlagsOf", spec := "fnExactFlagsOf", apart := false, narrowed := true }
def FnExactFlagsOfUptoSaid : Prop := fnExactFlagsOfUptoRow.holds Try.pinned (OpenSpec.upto fnExactFlagsOfSpec)

/-- 'laws.FnExactReadDecimal', WHERE WHAT IT READS IS OF BULK AT MOST 1048576: true; the input reads as it did. -/
def fnExactReadDecimalUptoRow : OpenClaim := { program := "ytolkoidoablphaa", sum := "0d3e6b514b3d302d707c5cd306831e6c7a3b600ab65906304e866cb69e86303a", func := "loop.example/g00324/laws.FnExactReadDecimal", spec := "fnExactReadDecimal", apart := false, narrowed := true }
def FnExactReadDecimalUptoSaid : Prop := fnExactReadDecimalUptoRow.holds Try.pinned (OpenSpec.upto fnExactReadDecimalSpec)

/-- 'laws.FnExactFlagsOk', WHERE WHAT IT READS IS OF BULK AT MOST 1048576: true; the input reads as it did. -/
def fnExactFlagsOkUptoRow : OpenClaim := { program := "ytolkoidoablphaa", sum := "0d3e6b514b3d302d707c5cd306831e6c7a3b600ab65906304e866cb69e86303a", func := "loop.example/g00324/laws.FnExactFlagsOk", spec := "fnExactFlagsOk", apart := false, narrowed := true }
def FnExactFlagsOkUptoSaid : Prop := fnExactFlagsOkUptoRow.holds Try.pinned (OpenSpec.upto fnExactFlagsOkSpec)

/-- 'laws.FnExactFlagsNew', WHERE WHAT IT READS IS OF BULK AT MOST 1048576: true; the input reads as it did. -/
def fnExactFlagsNewUptoRow : OpenClaim := { program := "ytolkoidoablphaa", sum := "0d3e6b514b3d302d707c5cd306831e6c7a3b600ab65906304e866cb69e86303a", func := "loop.example/g00324/laws.FnExactFlagsNew", spec := "fnExactFlagsNew", apart := false, narrowed := true }
def FnExactFlagsNewUptoSaid : Prop := fnExactFlagsNewUptoRow.holds Try.pinned (OpenSpec.upto fnExactFlagsNewSpec)

end Rows
end Go.Proofs.Ytolkoidoablphaa
