/-
  No cell of these rows narrows 'for every input' (looked for: loops, veiled, ifaces, maps, wideKeys, modest, calm, conditions, laid).
  DERIVED. THE GIVEN ROWS OF THIS SEAT. 9 by the template 'for every input the law returns true; each argument reads behind the call as it read before'; 0 by the template 'total and deterministic' (their statements: YtjlffencbaifeaaTotals.lean).
  GIVEN WITH THE SEED: the statements are not yours to turn. If you find one false, say at which input.
  Laid BY PROGRAM, IN A SANDBOX (cutbox-rows.mjs): the forced cells as the released guide's own fill.sh prints them over the translation 448af8caf907a0b3… (all of the seat's roots in one cut). By AI agents, Wed Nov 11 2026. No macro, syntax, notation, axiom, sorry.
-/
import Derived.Test.YtjlffencbaifeaaChecked
import GoSem.Claim
import GoSem.ClaimJoined
import GoSem.ClaimMapViews
import Derived.JoinedTies
import Derived.KernelRfl
namespace Go.Proofs.Ytjlffencbaifeaa
/- THE CELL 'sum', in the pinned program and in every row, IS THE sha256 OF THE DUMP (.gsa) THAT YtjlffencbaifeaaProg.lean LOADS. Nothing in Lean hashes anything: it is a label: what it is worth is what the hold of that sum in a sandbox is worth. -/
noncomputable def Try.pinned : Pinned := { name := "ytjlffencbaifeaa", sum := "448af8caf907a0b3ed13b3d6187d679ddbc9f2f8cfeed06b0e93236bb1558e11", checked := Try.checked }
namespace Rows
def none {H : Type} : Left H := { results := [], args := [] }

/-- 'laws.FnExactReadMail': WHATEVER THE INPUT: true; the input reads as it did. -/
def fnExactReadMailSpec : ChangeSpec := { name := "fnExactReadMail", fn := fun _ => fun
  | [d1, d2] => { results := [.lit (.bool true)], args := [d1, d2] }
  | _ => none }
def fnExactReadMailRow : OpenClaim := { program := "ytjlffencbaifeaa", sum := "448af8caf907a0b3ed13b3d6187d679ddbc9f2f8cfeed06b0e93236bb1558e11", func := "loop.example/g00324/laws.FnExactReadMail", spec := "fnExactReadMail", apart := false }
def FnExactReadMailSaid : Prop := fnExactReadMailRow.holds Try.pinned (OpenSpec.ofChange fnExactReadMailSpec)

/-- ITS FALSE NEIGHBOUR: 'it returns false'. Refute it at one input. -/
def fnExactReadMailWrong : ChangeSpec := { name := "fnExactReadMail", fn := fun _ => fun
  | [d1, d2] => { results := [.lit (.bool false)], args := [d1, d2] }
  | _ => none }
def FnExactReadMailWrongFalsely : Prop := fnExactReadMailRow.holds Try.pinned (OpenSpec.ofChange fnExactReadMailWrong)

/-- 'laws.FnExactNextStamp': WHATEVER THE INPUT: true; the input reads as it did. -/
def fnExactNextStampSpec : ChangeSpec := { name := "fnExactNextStamp", fn := fun _ => fun
  | [d] => { results := [.lit (.bool true)], args := [d] }
  | _ => none }
def fnExactNextStampRow : OpenClaim := { program := "ytjlffencbaifeaa", sum := "448af8caf907a0b3ed13b3d6187d679ddbc9f2f8cfeed06b0e93236bb1558e11", func := "loop.example/g00324/laws.FnExactNextStamp", spec := "fnExactNextStamp", apart := false }
def FnExactNextStampSaid : Prop := fnExactNextStampRow.holds Try.pinned (OpenSpec.ofChange fnExactNextStampSpec)

/-- ITS FALSE NEIGHBOUR: 'it returns false'. Refute it at one input. -/
def fnExactNextStampWrong : ChangeSpec := { name := "fnExactNextStamp", fn := fun _ => fun
  | [d] => { results := [.lit (.bool false)], args := [d] }
  | _ => none }
def FnExactNextStampWrongFalsely : Prop := fnExactNextStampRow.holds Try.pinned (OpenSpec.ofChange fnExactNextStampWrong)

/-- 'laws.FnExactStoreNew': WHATEVER THE INPUT: true; the input reads as it did. -/
def fnExactStoreNewSpec : ChangeSpec := { name := "fnExactStoreNew", fn := fun _ => fun
  | [d] => { results := [.lit (.bool true)], args := [d] }
  | _ => none }
def fnExactStoreNewRow : OpenClaim := { program := "ytjlffencbaifeaa", sum := "448af8caf907a0b3ed13b3d6187d679ddbc9f2f8cfeed06b0e93236bb1558e11", func := "loop.example/g00324/laws.FnExactStoreNew", spec := "fnExactStoreNew", apart := false }
def FnExactStoreNewSaid : Prop := fnExactStoreNewRow.holds Try.pinned (OpenSpec.ofChange fnExactStoreNewSpec)

/-- ITS FALSE NEIGHBOUR: 'it returns false'. Refute it at one input. -/
def fnExactStoreNewWrong : ChangeSpec := { name := "fnExactStoreNew", fn := fun _ => fun
  | [d] => { results := [.lit (.bool false)], args := [d] }
  | _ => none }
def FnExactStoreNewWrongFalsely : Prop := fnExactStoreNewRow.holds Try.pinned (OpenSpec.ofChange fnExactStoreNewWrong)

/-- 'laws.FnExactBoxAt': WHATEVER THE INPUT: true; the input reads as it did. -/
def fnExactBoxAtSpec : ChangeSpec := { name := "fnExactBoxAt", fn := fun _ => fun
  | [d1, d2] => { results := [.lit (.bool true)], args := [d1, d2] }
  | _ => none }
def fnExactBoxAtRow : OpenClaim := { program := "ytjlffencbaifeaa", sum := "448af8caf907a0b3ed13b3d6187d679ddbc9f2f8cfeed06b0e93236bb1558e11", func := "loop.example/g00324/laws.FnExactBoxAt", spec := "fnExactBoxAt", unfollowed := true, recurses := true, apart := false }
def FnExactBoxAtSaid : Prop := fnExactBoxAtRow.holds Try.pinned (OpenSpec.ofChange fnExactBoxAtSpec)

/-- ITS FALSE NEIGHBOUR: 'it returns false'. Refute it at one input. -/
def fnExactBoxAtWrong : ChangeSpec := { name := "fnExactBoxAt", fn := fun _ => fun
  | [d1, d2] => { results := [.lit (.bool false)], args := [d1, d2] }
  | _ => none }
def FnExactBoxAtWrongFalsely : Prop := fnExactBoxAtRow.holds Try.pinned (OpenSpec.ofChange fnExactBoxAtWrong)

/-- 'laws.FnExactBoxNamed': WHATEVER THE INPUT: true; the input reads as it did. -/
def fnExactBoxNamedSpec : ChangeSpec := { name := "fnExactBoxNamed", fn := fun _ => fun
  | [d1, d2] => { results := [.lit (.bool true)], args := [d1, d2] }
  | _ => none }
def fnExactBoxNamedRow : OpenClaim := { program := "ytjlffencbaifeaa", sum := "448af8caf907a0b3ed13b3d6187d679ddbc9f2f8cfeed06b0e93236bb1558e11", func := "loop.example/g00324/laws.FnExactBoxNamed", spec := "fnExactBoxNamed", unfollowed := true, recurses := true, apart := false }
def FnExactBoxNamedSaid : Prop := fnExactBoxNamedRow.holds Try.pinned (OpenSpec.ofChange fnExactBoxNamedSpec)

/-- ITS FALSE NEIGHBOUR: 'it returns false'. Refute it at one input. -/
def fnExactBoxNamedWrong : ChangeSpec := { name := "fnExactBoxNamed", fn := fun _ => fun
  | [d1, d2] => { results := [.lit (.bool false)], args := [d1, d2] }
  | _ => none }
def FnExactBoxNamedWrongFalsely : Prop := fnExactBoxNamedRow.holds Try.pinned (OpenSpec.ofChange fnExactBoxNamedWrong)

/-- 'laws.FnExactBoxOk': WHATEVER THE INPUT: true; the input reads as it did. -/
def fnExactBoxOkSpec : ChangeSpec := { name := "fnExactBoxOk", fn := fun _ => fun
  | [d] => { results := [.lit (.bool true)], args := [d] }
  | _ => none }
def fnExactBoxOkRow : OpenClaim := { program := "ytjlffencbaifeaa", sum := "448af8caf907a0b3ed13b3d6187d679ddbc9f2f8cfeed06b0e93236bb1558e11", func := "loop.example/g00324/laws.FnExactBoxOk", spec := "fnExactBoxOk", unfollowed := true, recurses := true, apart := false }
def FnExactBoxOkSaid : Prop := fnExactBoxOkRow.holds Try.pinned (OpenSpec.ofChange fnExactBoxOkSpec)

/-- ITS FALSE NEIGHBOUR: 'it returns false'. Refute it at one input. -/
def fnExactBoxOkWrong : ChangeSpec := { name := "fnExactBoxOk", fn := fun _ => fun
  | [d] => { results := [.lit (.bool false)], args := [d] }
  | _ => none }
def FnExactBoxOkWrongFalsely : Prop := fnExactBoxOkRow.holds Try.pinned (OpenSpec.ofChange fnExactBoxOkWrong)

/-- 'laws.FnExactKnows': WHATEVER THE INPUT: true; the input reads as it did. -/
def fnExactKnowsSpec : ChangeSpec := { name := "fnExactKnows", fn := fun _ => fun
  | [d1, d2] => { results := [.lit (.bool true)], args := [d1, d2] }
  | _ => none }
def fnExactKnowsRow : OpenClaim := { program := "ytjlffencbaifeaa", sum := "448af8caf907a0b3ed13b3d6187d679ddbc9f2f8cfeed06b0e93236bb1558e11", func := "loop.example/g00324/laws.FnExactKnows", spec := "fnExactKnows", unfollowed := true, recurses := true, apart := false }
def FnExactKnowsSaid : Prop := fnExactKnowsRow.holds Try.pinned (OpenSpec.ofChange fnExactKnowsSpec)

/-- ITS FALSE NEIGHBOUR: 'it returns false'. Refute it at one input. -/
def fnExactKnowsWrong : ChangeSpec := { name := "fnExactKnows", fn := fun _ => fun
  | [d1, d2] => { results := [.lit (.bool false)], args := [d1, d2] }
  | _ => none }
def FnExactKnowsWrongFalsely : Prop := fnExactKnowsRow.holds Try.pinned (OpenSpec.ofChange fnExactKnowsWrong)

/-- 'laws.FnExactStoreOk': WHATEVER THE INPUT: true; the input reads as it did. -/
def fnExactStoreOkSpec : ChangeSpec := { name := "fnExactStoreOk", fn := fun _ => fun
  | [d] => { results := [.lit (.bool true)], args := [d] }
  | _ => none }
def fnExactStoreOkRow : OpenClaim := { program := "ytjlffencbaifeaa", sum := "448af8caf907a0b3ed13b3d6187d679ddbc9f2f8cfeed06b0e93236bb1558e11", func := "loop.example/g00324/laws.FnExactStoreOk", spec := "fnExactStoreOk", unfollowed := true, recurses := true, apart := false }
def FnExactStoreOkSaid : Prop := fnExactStoreOkRow.holds Try.pinned (OpenSpec.ofChange fnExactStoreOkSpec)

/-- ITS FALSE NEIGHBOUR: 'it returns false'. Refute it at one input. -/
def fnExactStoreOkWrong : ChangeSpec := { name := "fnExactStoreOk", fn := fun _ => fun
  | [d] => { results := [.lit (.bool false)], args := [d] }
  | _ => none }
def FnExactStoreOkWrongFalsely : Prop := fnExactStoreOkRow.holds Try.pinned (OpenSpec.ofChange fnExactStoreOkWrong)

/-- 'laws.FnMails': WHATEVER THE INPUT: true; the input reads as it did. -/
def fnMailsSpec : ChangeSpec := { name := "fnMails", fn := fun _ => fun
  | [d] => { results := [.lit (.bool true)], args := [d] }
  | _ => none }
def fnMailsRow : OpenClaim := { program := "ytjlffencbaifeaa", sum := "448af8caf907a0b3ed13b3d6187d679ddbc9f2f8cfeed06b0e93236bb1558e11", func := "loop.example/g00324/laws.FnMails", spec := "fnMails", apart := false }
def FnMailsSaid : Prop := fnMailsRow.holds Try.pinned (OpenSpec.ofChange fnMailsSpec)

/-- ITS FALSE NEIGHBOUR: 'it returns false'. Refute it at one input. -/
def fnMailsWrong : ChangeSpec := { name := "fnMails", fn := fun _ => fun
  | [d] => { results := [.lit (.bool false)], args := [d] }
  | _ => none }
def FnMailsWrongFalsely : Prop := fnMailsRow.holds Try.pinned (OpenSpec.ofChange fnMailsWrong)

/- THE SECOND FORM. 'bulk': how many values and letters a reading holds, each counted each time it is reached (what is shared counts as often as it is met; a slice's spare places count too). A statement '..UptoSaid' is the law's where the arguments, and the package variables that the reading takes, are together of bulk at most 1048576: NARROWER than '..Said'. Prove '..Said' where nothing that the law and all that it calls make is longer than what came in: it says more and counts as full. Else prove '..UptoSaid'. A law counts once. -/
mutual
def uptoBulk {H : Type} : DataW H → Nat
  | .lit (.string bytes) => bytes.length + 1
  | .lit _ => 1
  | .nil => 1
  | .ptr d => uptoBulk d + 1
  | .slice elems spare => uptoBulkAll elems + uptoBulkAll spare + 1
  | .agg parts => uptoBulkAll parts + 1
  | .iface _ d => uptoBulk d + 1
  | .map entries => uptoBulkEntries entries + 1
  | .held _ => 1
def uptoBulkAll {H : Type} : List (DataW H) → Nat
  | [] => 0
  | d :: r => uptoBulk d + uptoBulkAll r
def uptoBulkEntries {H : Type} : List (Lit × DataW H) → Nat
  | [] => 0
  | x :: r => uptoBulkEntry x + uptoBulkEntries r
def uptoBulkEntry {H : Type} : Lit × DataW H → Nat
  | (.string bytes, d) => bytes.length + uptoBulk d + 1
  | (_, d) => uptoBulk d + 1
 end
def uptoSmall : (H : Type) → List (DataW H) → Bool := fun _ ds => decide (uptoBulkAll ds ≤ 1048576)
def OpenSpec.upto (s : _root_.Go.ChangeSpec) : _root_.Go.OpenSpec := { _root_.Go.OpenSpec.ofChange s with cond := some uptoSmall }

/-- 'laws.FnExactReadMail', WHERE WHAT IT READS IS OF BULK AT MOST 1048576: true; the input reads as it did. -/
def fnExactReadMailUptoRow : OpenClaim := { program := "ytjlffencbaifeaa", sum := "448af8caf907a0b3ed13b3d6187d679ddbc9f2f8cfeed06b0e93236bb1558e11", func := "loop.example/g00324/laws.FnExactReadMail", spec := "fnExactReadMail", apart := false, narrowed := true }
def FnExactReadMailUptoSaid : Prop := fnExactReadMailUptoRow.holds Try.pinned (OpenSpec.upto fnExactReadMailSpec)

/-- 'laws.FnExactNextStamp', WHERE WHAT IT READS IS OF BULK AT MOST 1048576: true; the input reads as it did. -/
def fnExactNextStampUptoRow : OpenClaim := { program := "ytjlffencbaifeaa", sum := "448af8caf907a0b3ed13b3d6187d679ddbc9f2f8cfeed06b0e93236bb1558e11", func := "loop.example/g00324/laws.FnExactNextStamp", spec := "fnExactNextStamp", apart := false, narrowed := true }
def FnExactNextStampUptoSaid : Prop := fnExactNextStampUptoRow.holds Try.pinned (OpenSpec.upto fnExactNextStampSpec)

/-- 'laws.FnExactStoreNew', WHERE WHAT IT READS IS OF BULK AT MOST 1048576: true; the input reads as it did. -/
def fnExactStoreNewUptoRow : OpenClaim := { program := "ytjlffencbaifeaa", sum := "448af8caf907a0b3ed13b3d6187d679ddbc9f2f8cfeed06b0e93236bb1558e11", func := "loop.example/g00324/laws.FnExactStoreNew", spec := "fnExactStoreNew", apart := false, narrowed := true }
def FnExactStoreNewUptoSaid : Prop := fnExactStoreNewUptoRow.holds Try.pinned (OpenSpec.upto fnExactStoreNewSpec)

/-- 'laws.FnExactBoxAt', WHERE WHAT IT READS IS OF BULK AT MOST 1048576: true; the input reads as it did. -/
def fnExactBoxAtUptoRow : OpenClaim := { program := "ytjlffencbaifeaa", sum := "448af8caf907a0b3ed13b3d6187d679ddbc9f2f8cfeed06b0e93236bb1558e11", func := "loop.example/g00324/laws.FnExactBoxAt", spec := "fnExactBoxAt", unfollowed := true, recurses := true, apart := false, narrowed := true }
def FnExactBoxAtUptoSaid : Prop := fnExactBoxAtUptoRow.holds Try.pinned (OpenSpec.upto fnExactBoxAtSpec)

/-- 'laws.FnExactBoxNamed', WHERE WHAT IT READS IS OF BULK AT MOST 1048576: true; the input reads as it did. -/
def fnExactBoxNamedUptoRow : OpenClaim := { program := "ytjlffencbaifeaa", sum := "448af8caf907a0b3ed13b3d6187d679ddbc9f2f8cfeed06b0e93236bb1558e11", func := "loop.example/g00324/laws.FnExactBoxNamed", spec := "fnExactBoxNamed", unfollowed := true, recurses := true, apart := false, narrowed := true }
def FnExactBoxNamedUptoSaid : Prop := fnExactBoxNamedUptoRow.holds Try.pinned (OpenSpec.upto fnExactBoxNamedSpec)

/-- 'laws.FnExactBoxOk', WHERE WHAT IT READS IS OF BULK AT MOST 1048576: true; the input reads as it did. -/
def fnExactBoxOkUptoRow : OpenClaim := { program := "ytjlffencbaifeaa", sum := "448af8caf907a0b3ed13b3d6187d679ddbc9f2f8cfeed06b0e93236bb1558e11", func := "loop.example/g00324/laws.FnExactBoxOk", spec := "fnExactBoxOk", unfollowed := true, recurses := true, apart := false, narrowed := true }
def FnExactBoxOkUptoSaid : Prop := fnExactBoxOkUptoRow.holds Try.pinned (OpenSpec.upto fnExactBoxOkSpec)

/-- 'laws.FnExactKnows', WHERE WHAT IT READS IS OF BULK AT MOST 1048576: true; the input reads as it did. -/
def fnExactKnowsUptoRow : OpenClaim := { program := "ytjlffencbaifeaa", sum := "448af8caf907a0b3ed13b3d6187d679ddbc9f2f8cfeed06b0e93236bb1558e11", func := "loop.example/g00324/laws.FnExactKnows", spec := "fnExactKnows", unfollowed := true, recurses := true, apart := false, narrowed := true }
def FnExactKnowsUptoSaid : Prop := fnExactKnowsUptoRow.holds Try.pinned (OpenSpec.upto fnExactKnowsSpec)

/-- 'laws.FnExactStoreOk', WHERE WHAT IT READS IS OF BULK AT MOST 1048576: true; the input reads as it did. -/
def fnExactStoreOkUptoRow : OpenClaim := { program := "ytjlffencbaifeaa", sum := "448af8caf907a0b3ed13b3d6187d679ddbc9f2f8cfeed06b0e93236bb1558e11", func := "loop.example/g00324/laws.FnExactStoreOk", spec := "fnExactStoreOk", unfollowed := true, recurses := true, apart := false, narrowed := true }
def FnExactStoreOkUptoSaid : Prop := fnExactStoreOkUptoRow.holds Try.pinned (OpenSpec.upto fnExactStoreOkSpec)

/-- 'laws.FnMails', WHERE WHAT IT READS IS OF BULK AT MOST 1048576: true; the input reads as it did. -/
def fnMailsUptoRow : OpenClaim := { program := "ytjlffencbaifeaa", sum := "448af8caf907a0b3ed13b3d6187d679ddbc9f2f8cfeed06b0e93236bb1558e11", func := "loop.example/g00324/laws.FnMails", spec := "fnMails", apart := false, narrowed := true }
def FnMailsUptoSaid : Prop := fnMailsUptoRow.holds Try.pinned (OpenSpec.upto fnMailsSpec)

end Rows
end Go.Proofs.Ytjlffencbaifeaa
