/-
  No cell of these rows narrows 'for every input' (looked for: loops, veiled, ifaces, maps, wideKeys, modest, calm, conditions, laid).
  DERIVED. THE GIVEN ROWS OF THIS SEAT. 11 by the template 'for every input the law returns true; each argument reads behind the call as it read before'; 0 by the template 'total and deterministic' (their statements: YthpfihklkcnckaaTotals.lean).
  GIVEN WITH THE SEED: the statements are not yours to turn. If you find one false, say at which input.
  Laid BY PROGRAM, IN A SANDBOX (cutbox-rows.mjs): the forced cells as the released guide's own fill.sh prints them over the translation f06809d3912b8e2a… (all of the seat's roots in one cut). By AI agents, Wed Nov 11 2026. No macro, syntax, notation, axiom, sorry.
-/
import Derived.Test.YthpfihklkcnckaaChecked
import GoSem.Claim
import GoSem.ClaimJoined
import GoSem.ClaimMapViews
import Derived.JoinedTies
import Derived.KernelRfl
namespace Go.Proofs.Ythpfihklkcnckaa
/- THE CELL 'sum', in the pinned program and in every row, IS THE sha256 OF THE DUMP (.gsa) THAT YthpfihklkcnckaaProg.lean LOADS. Nothing in Lean hashes anything: it is a label: what it is worth is what the hold of that sum in a sandbox is worth. -/
noncomputable def Try.pinned : Pinned := { name := "ythpfihklkcnckaa", sum := "f06809d3912b8e2aeb1747689b16ac79819715b37bd711ce9d6f87df75f6bd19", checked := Try.checked }
namespace Rows
def none {H : Type} : Left H := { results := [], args := [] }

/-- 'laws.FnExactNodeAt': WHATEVER THE INPUT: true; the input reads as it did. -/
def fnExactNodeAtSpec : ChangeSpec := { name := "fnExactNodeAt", fn := fun _ => fun
  | [d1, d2, d3] => { results := [.lit (.bool true)], args := [d1, d2, d3] }
  | _ => none }
def fnExactNodeAtRow : OpenClaim := { program := "ythpfihklkcnckaa", sum := "f06809d3912b8e2aeb1747689b16ac79819715b37bd711ce9d6f87df75f6bd19", func := "loop.example/g00467/laws.FnExactNodeAt", spec := "fnExactNodeAt", apart := false }
def FnExactNodeAtSaid : Prop := fnExactNodeAtRow.holds Try.pinned (OpenSpec.ofChange fnExactNodeAtSpec)

/-- ITS FALSE NEIGHBOUR: 'it returns false'. Refute it at one input. -/
def fnExactNodeAtWrong : ChangeSpec := { name := "fnExactNodeAt", fn := fun _ => fun
  | [d1, d2, d3] => { results := [.lit (.bool false)], args := [d1, d2, d3] }
  | _ => none }
def FnExactNodeAtWrongFalsely : Prop := fnExactNodeAtRow.holds Try.pinned (OpenSpec.ofChange fnExactNodeAtWrong)

/-- 'laws.FnExactNodeNew': WHATEVER THE INPUT: true; the input reads as it did. -/
def fnExactNodeNewSpec : ChangeSpec := { name := "fnExactNodeNew", fn := fun _ => fun
  | [d] => { results := [.lit (.bool true)], args := [d] }
  | _ => none }
def fnExactNodeNewRow : OpenClaim := { program := "ythpfihklkcnckaa", sum := "f06809d3912b8e2aeb1747689b16ac79819715b37bd711ce9d6f87df75f6bd19", func := "loop.example/g00467/laws.FnExactNodeNew", spec := "fnExactNodeNew", apart := false }
def FnExactNodeNewSaid : Prop := fnExactNodeNewRow.holds Try.pinned (OpenSpec.ofChange fnExactNodeNewSpec)

/-- ITS FALSE NEIGHBOUR: 'it returns false'. Refute it at one input. -/
def fnExactNodeNewWrong : ChangeSpec := { name := "fnExactNodeNew", fn := fun _ => fun
  | [d] => { results := [.lit (.bool false)], args := [d] }
  | _ => none }
def FnExactNodeNewWrongFalsely : Prop := fnExactNodeNewRow.holds Try.pinned (OpenSpec.ofChange fnExactNodeNewWrong)

/-- 'laws.FnExactNodeOk': WHATEVER THE INPUT: true; the input reads as it did. -/
def fnExactNodeOkSpec : ChangeSpec := { name := "fnExactNodeOk", fn := fun _ => fun
  | [d] => { results := [.lit (.bool true)], args := [d] }
  | _ => none }
def fnExactNodeOkRow : OpenClaim := { program := "ythpfihklkcnckaa", sum := "f06809d3912b8e2aeb1747689b16ac79819715b37bd711ce9d6f87df75f6bd19", func := "loop.example/g00467/laws.FnExactNodeOk", spec := "fnExactNodeOk", apart := false }
def FnExactNodeOkSaid : Prop := fnExactNodeOkRow.holds Try.pinned (OpenSpec.ofChange fnExactNodeOkSpec)

/-- ITS FALSE NEIGHBOUR: 'it returns false'. Refute it at one input. -/
def fnExactNodeOkWrong : ChangeSpec := { name := "fnExactNodeOk", fn := fun _ => fun
  | [d] => { results := [.lit (.bool false)], args := [d] }
  | _ => none }
def FnExactNodeOkWrongFalsely : Prop := fnExactNodeOkRow.holds Try.pinned (OpenSpec.ofChange fnExactNodeOkWrong)

/-- 'laws.FnExactNodeKeys': WHATEVER THE INPUT: true; the input reads as it did. -/
def fnExactNodeKeysSpec : ChangeSpec := { name := "fnExactNodeKeys", fn := fun _ => fun
  | [d] => { results := [.lit (.bool true)], args := [d] }
  | _ => none }
def fnExactNodeKeysRow : OpenClaim := { program := "ythpfihklkcnckaa", sum := "f06809d3912b8e2aeb1747689b16ac79819715b37bd711ce9d6f87df75f6bd19", func := "loop.example/g00467/laws.FnExactNodeKeys", spec := "fnExactNodeKeys", apart := false }
def FnExactNodeKeysSaid : Prop := fnExactNodeKeysRow.holds Try.pinned (OpenSpec.ofChange fnExactNodeKeysSpec)

/-- ITS FALSE NEIGHBOUR: 'it returns false'. Refute it at one input. -/
def fnExactNodeKeysWrong : ChangeSpec := { name := "fnExactNodeKeys", fn := fun _ => fun
  | [d] => { results := [.lit (.bool false)], args := [d] }
  | _ => none }
def FnExactNodeKeysWrongFalsely : Prop := fnExactNodeKeysRow.holds Try.pinned (OpenSpec.ofChange fnExactNodeKeysWrong)

/-- 'laws.FnExactNodePack': WHATEVER THE INPUT: true; the input reads as it did. -/
def fnExactNodePackSpec : ChangeSpec := { name := "fnExactNodePack", fn := fun _ => fun
  | [d] => { results := [.lit (.bool true)], args := [d] }
  | _ => none }
def fnExactNodePackRow : OpenClaim := { program := "ythpfihklkcnckaa", sum := "f06809d3912b8e2aeb1747689b16ac79819715b37bd711ce9d6f87df75f6bd19", func := "loop.example/g00467/laws.FnExactNodePack", spec := "fnExactNodePack", apart := false }
def FnExactNodePackSaid : Prop := fnExactNodePackRow.holds Try.pinned (OpenSpec.ofChange fnExactNodePackSpec)

/-- ITS FALSE NEIGHBOUR: 'it returns false'. Refute it at one input. -/
def fnExactNodePackWrong : ChangeSpec := { name := "fnExactNodePack", fn := fun _ => fun
  | [d] => { results := [.lit (.bool false)], args := [d] }
  | _ => none }
def FnExactNodePackWrongFalsely : Prop := fnExactNodePackRow.holds Try.pinned (OpenSpec.ofChange fnExactNodePackWrong)

/-- 'laws.FnExactNodePut': WHATEVER THE INPUT: true; the input reads as it did. -/
def fnExactNodePutSpec : ChangeSpec := { name := "fnExactNodePut", fn := fun _ => fun
  | [d1, d2] => { results := [.lit (.bool true)], args := [d1, d2] }
  | _ => none }
def fnExactNodePutRow : OpenClaim := { program := "ythpfihklkcnckaa", sum := "f06809d3912b8e2aeb1747689b16ac79819715b37bd711ce9d6f87df75f6bd19", func := "loop.example/g00467/laws.FnExactNodePut", spec := "fnExactNodePut", apart := false }
def FnExactNodePutSaid : Prop := fnExactNodePutRow.holds Try.pinned (OpenSpec.ofChange fnExactNodePutSpec)

/-- ITS FALSE NEIGHBOUR: 'it returns false'. Refute it at one input. -/
def fnExactNodePutWrong : ChangeSpec := { name := "fnExactNodePut", fn := fun _ => fun
  | [d1, d2] => { results := [.lit (.bool false)], args := [d1, d2] }
  | _ => none }
def FnExactNodePutWrongFalsely : Prop := fnExactNodePutRow.holds Try.pinned (OpenSpec.ofChange fnExactNodePutWrong)

/-- 'laws.FnExactTreeNew': WHATEVER THE INPUT: true; the input reads as it did. -/
def fnExactTreeNewSpec : ChangeSpec := { name := "fnExactTreeNew", fn := fun _ => fun
  | [] => { results := [.lit (.bool true)], args := [] }
  | _ => none }
def fnExactTreeNewRow : OpenClaim := { program := "ythpfihklkcnckaa", sum := "f06809d3912b8e2aeb1747689b16ac79819715b37bd711ce9d6f87df75f6bd19", func := "loop.example/g00467/laws.FnExactTreeNew", spec := "fnExactTreeNew", apart := false }
def FnExactTreeNewSaid : Prop := fnExactTreeNewRow.holds Try.pinned (OpenSpec.ofChange fnExactTreeNewSpec)

/-- ITS FALSE NEIGHBOUR: 'it returns false'. Refute it at one input. -/
def fnExactTreeNewWrong : ChangeSpec := { name := "fnExactTreeNew", fn := fun _ => fun
  | [] => { results := [.lit (.bool false)], args := [] }
  | _ => none }
def FnExactTreeNewWrongFalsely : Prop := fnExactTreeNewRow.holds Try.pinned (OpenSpec.ofChange fnExactTreeNewWrong)

/-- 'laws.FnExactWhereIn': WHATEVER THE INPUT: true; the input reads as it did. -/
def fnExactWhereInSpec : ChangeSpec := { name := "fnExactWhereIn", fn := fun _ => fun
  | [d1, d2, d3] => { results := [.lit (.bool true)], args := [d1, d2, d3] }
  | _ => none }
def fnExactWhereInRow : OpenClaim := { program := "ythpfihklkcnckaa", sum := "f06809d3912b8e2aeb1747689b16ac79819715b37bd711ce9d6f87df75f6bd19", func := "loop.example/g00467/laws.FnExactWhereIn", spec := "fnExactWhereIn", apart := false }
def FnExactWhereInSaid : Prop := fnExactWhereInRow.holds Try.pinned (OpenSpec.ofChange fnExactWhereInSpec)

/-- ITS FALSE NEIGHBOUR: 'it returns false'. Refute it at one input. -/
def fnExactWhereInWrong : ChangeSpec := { name := "fnExactWhereIn", fn := fun _ => fun
  | [d1, d2, d3] => { results := [.lit (.bool false)], args := [d1, d2, d3] }
  | _ => none }
def FnExactWhereInWrongFalsely : Prop := fnExactWhereInRow.holds Try.pinned (OpenSpec.ofChange fnExactWhereInWrong)

/-- 'laws.FnExactTreeAt': WHATEVER THE INPUT: true; the input reads as it did. -/
def fnExactTreeAtSpec : ChangeSpec := { name := "fnExactTreeAt", fn := fun _ => fun
  | [d1, d2, d3] => { results := [.lit (.bool true)], args := [d1, d2, d3] }
  | _ => none }
def fnExactTreeAtRow : OpenClaim := { program := "ythpfihklkcnckaa", sum := "f06809d3912b8e2aeb1747689b16ac79819715b37bd711ce9d6f87df75f6bd19", func := "loop.example/g00467/laws.FnExactTreeAt", spec := "fnExactTreeAt", apart := false }
def FnExactTreeAtSaid : Prop := fnExactTreeAtRow.holds Try.pinned (OpenSpec.ofChange fnExactTreeAtSpec)

/-- ITS FALSE NEIGHBOUR: 'it returns false'. Refute it at one input. -/
def fnExactTreeAtWrong : ChangeSpec := { name := "fnExactTreeAt", fn := fun _ => fun
  | [d1, d2, d3] => { results := [.lit (.bool false)], args := [d1, d2, d3] }
  | _ => none }
def FnExactTreeAtWrongFalsely : Prop := fnExactTreeAtRow.holds Try.pinned (OpenSpec.ofChange fnExactTreeAtWrong)

/-- 'laws.FnExactTreeKeys': WHATEVER THE INPUT: true; the input reads as it did. -/
def fnExactTreeKeysSpec : ChangeSpec := { name := "fnExactTreeKeys", fn := fun _ => fun
  | [d] => { results := [.lit (.bool true)], args := [d] }
  | _ => none }
def fnExactTreeKeysRow : OpenClaim := { program := "ythpfihklkcnckaa", sum := "f06809d3912b8e2aeb1747689b16ac79819715b37bd711ce9d6f87df75f6bd19", func := "loop.example/g00467/laws.FnExactTreeKeys", spec := "fnExactTreeKeys", apart := false }
def FnExactTreeKeysSaid : Prop := fnExactTreeKeysRow.holds Try.pinned (OpenSpec.ofChange fnExactTreeKeysSpec)

/-- ITS FALSE NEIGHBOUR: 'it returns false'. Refute it at one input. -/
def fnExactTreeKeysWrong : ChangeSpec := { name := "fnExactTreeKeys", fn := fun _ => fun
  | [d] => { results := [.lit (.bool false)], args := [d] }
  | _ => none }
def FnExactTreeKeysWrongFalsely : Prop := fnExactTreeKeysRow.holds Try.pinned (OpenSpec.ofChange fnExactTreeKeysWrong)

/-- 'laws.FnExactTreeOk': WHATEVER THE INPUT: true; the input reads as it did. -/
def fnExactTreeOkSpec : ChangeSpec := { name := "fnExactTreeOk", fn := fun _ => fun
  | [d] => { results := [.lit (.bool true)], args := [d] }
  | _ => none }
def fnExactTreeOkRow : OpenClaim := { program := "ythpfihklkcnckaa", sum := "f06809d3912b8e2aeb1747689b16ac79819715b37bd711ce9d6f87df75f6bd19", func := "loop.example/g00467/laws.FnExactTreeOk", spec := "fnExactTreeOk", apart := false }
def FnExactTreeOkSaid : Prop := fnExactTreeOkRow.holds Try.pinned (OpenSpec.ofChange fnExactTreeOkSpec)

/-- ITS FALSE NEIGHBOUR: 'it returns false'. Refute it at one input. -/
def fnExactTreeOkWrong : ChangeSpec := { name := "fnExactTreeOk", fn := fun _ => fun
  | [d] => { results := [.lit (.bool false)], args := [d] }
  | _ => none }
def FnExactTreeOkWrongFalsely : Prop := fnExactTreeOkRow.holds Try.pinned (OpenSpec.ofChange fnExactTreeOkWrong)

/- THE SECOND FORM. 'bulk': how many values and letters a reading holds, each counted each time it is reached (what is shared counts as often as it is met; a slice's spare places count too). A statement '..UptoSaid' is the law's where the arguments, and the package variables that the reading takes, are together of bulk at most 1048576: NARROWER than '..Said'. Prove '..Said' where nothing that the law and all that it calls make is longer than what came in: it says more and counts as full. Else prove '..UptoSaid'. A law counts once. -/
mutual
def uptoBulk {H : Type} : DataW H → Nat
  | .lit (.string bytes) => bytes.length + 1
  | .lit _ => 1
  | .nil => 1
  | .ptr d => uptoBulk d + 1
  | .slice elems spare => uptoBulkAll elems + uptoBulkAll spare + 1
  | .agg parts => uptoBulkAll parts + 1
  | .iface _ d => uptoBulk d + 1
  | .map entries => uptoBulkEntries entries + 1
  | .held _ => 1
def uptoBulkAll {H : Type} : List (DataW H) → Nat
  | [] => 0
  | d :: r => uptoBulk d + uptoBulkAll r
def uptoBulkEntries {H : Type} : List (Lit × DataW H) → Nat
  | [] => 0
  | x :: r => uptoBulkEntry x + uptoBulkEntries r
def uptoBulkEntry {H : Type} : Lit × DataW H → Nat
  | (.string bytes, d) => bytes.length + uptoBulk d + 1
  | (_, d) => uptoBulk d + 1
 end
def uptoSmall : (H : Type) → List (DataW H) → Bool := fun _ ds => decide (uptoBulkAll ds ≤ 1048576)
def OpenSpec.upto (s : _root_.Go.ChangeSpec) : _root_.Go.OpenSpec := { _root_.Go.OpenSpec.ofChange s with cond := some uptoSmall }

/-- 'laws.FnExactNodeAt', WHERE WHAT IT READS IS OF BULK AT MOST 1048576: true; the input reads as it did. -/
def fnExactNodeAtUptoRow : OpenClaim := { program := "ythpfihklkcnckaa", sum := "f06809d3912b8e2aeb1747689b16ac79819715b37bd711ce9d6f87df75f6bd19", func := "loop.example/g00467/laws.FnExactNodeAt", spec := "fnExactNodeAt", apart := false, narrowed := true }
def FnExactNodeAtUptoSaid : Prop := fnExactNodeAtUptoRow.holds Try.pinned (OpenSpec.upto fnExactNodeAtSpec)

/-- 'laws.FnExactNodeNew', WHERE WHAT IT READS IS OF BULK AT MOST 1048576: true; the input reads as it did. -/
def fnExactNodeNewUptoRow : OpenClaim := { program := "ythpfihklkcnckaa", sum := "f06809d3912b8e2aeb1747689b16ac79819715b37bd711ce9d6f87df75f6bd19", func := "loop.example/g00467/laws.FnExactNodeNew", spec := "fnExactNodeNew", apart := false, narrowed := true }
def FnExactNodeNewUptoSaid : Prop := fnExactNodeNewUptoRow.holds Try.pinned (OpenSpec.upto fnExactNodeNewSpec)

/-- 'laws.FnExactNodeOk', WHERE WHAT IT READS IS OF BULK AT MOST 1048576: true; the input reads as it did. -/
def fnExactNodeOkUptoRow : OpenClaim := { program := "ythpfihklkcnckaa", sum := "f06809d3912b8e2aeb1747689b16ac79819715b37bd711ce9d6f87df75f6bd19", func := "loop.example/g00467/laws.FnExactNodeOk", spec := "fnExactNodeOk", apart := false, narrowed := true }
def FnExactNodeOkUptoSaid : Prop := fnExactNodeOkUptoRow.holds Try.pinned (OpenSpec.upto fnExactNodeOkSpec)

/-- 'laws.FnExactNodeKeys', WHERE WHAT IT READS IS OF BULK AT MOST 1048576: true; the input reads as it did. -/
def fnExactNodeKeysUptoRow : OpenClaim := { program := "ythpfihklkcnckaa", sum := "f06809d3912b8e2aeb1747689b16ac79819715b37bd711ce9d6f87df75f6bd19", func := "loop.example/g00467/laws.FnExactNodeKeys", spec := "fnExactNodeKeys", apart := false, narrowed := true }
def FnExactNodeKeysUptoSaid : Prop := fnExactNodeKeysUptoRow.holds Try.pinned (OpenSpec.upto fnExactNodeKeysSpec)

/-- 'laws.FnExactNodePack', WHERE WHAT IT READS IS OF BULK AT MOST 1048576: true; the input reads as it did. -/
def fnExactNodePackUptoRow : OpenClaim := { program := "ythpfihklkcnckaa", sum := "f06809d3912b8e2aeb1747689b16ac79819715b37bd711ce9d6f87df75f6bd19", func := "loop.example/g00467/laws.FnExactNodePack", spec := "fnExactNodePack", apart := false, narrowed := true }
def FnExactNodePackUptoSaid : Prop := fnExactNodePackUptoRow.holds Try.pinned (OpenSpec.upto fnExactNodePackSpec)

/-- 'laws.FnExactNodePut', WHERE WHAT IT READS IS OF BULK AT MOST 1048576: true; the input reads as it did. -/
def fnExactNodePutUptoRow : OpenClaim := { program := "ythpfihklkcnckaa", sum := "f06809d3912b8e2aeb1747689b16ac79819715b37bd711ce9d6f87df75f6bd19", func := "loop.example/g00467/laws.FnExactNodePut", spec := "fnExactNodePut", apart := false, narrowed := true }
def FnExactNodePutUptoSaid : Prop := fnExactNodePutUptoRow.holds Try.pinned (OpenSpec.upto fnExactNodePutSpec)

/-- 'laws.FnExactTreeNew', WHERE WHAT IT READS IS OF BULK AT MOST 1048576: true; the input reads as it did. -/
def fnExactTreeNewUptoRow : OpenClaim := { program := "ythpfihklkcnckaa", sum := "f06809d3912b8e2aeb1747689b16ac79819715b37bd711ce9d6f87df75f6bd19", func := "loop.example/g00467/laws.FnExactTreeNew", spec := "fnExactTreeNew", apart := false, narrowed := true }
def FnExactTreeNewUptoSaid : Prop := fnExactTreeNewUptoRow.holds Try.pinned (OpenSpec.upto fnExactTreeNewSpec)

/-- 'laws.FnExactWhereIn', WHERE WHAT IT READS IS OF BULK AT MOST 1048576: true; the input reads as it did. -/
def fnExactWhereInUptoRow : OpenClaim := { program := "ythpfihklkcnckaa", sum := "f06809d3912b8e2aeb1747689b16ac79819715b37bd711ce9d6f87df75f6bd19", func := "loop.example/g00467/laws.FnExactWhereIn", spec := "fnExactWhereIn", apart := false, narrowed := true }
def FnExactWhereInUptoSaid : Prop := fnExactWhereInUptoRow.holds Try.pinned (OpenSpec.upto fnExactWhereInSpec)

/-- 'laws.FnExactTreeAt', WHERE WHAT IT READS IS OF BULK AT MOST 1048576: true; the input reads as it did. -/
def fnExactTreeAtUptoRow : OpenClaim := { program := "ythpfihklkcnckaa", sum := "f06809d3912b8e2aeb1747689b16ac79819715b37bd711ce9d6f87df75f6bd19", func := "loop.example/g00467/laws.FnExactTreeAt", spec := "fnExactTreeAt", apart := false, narrowed := true }
def FnExactTreeAtUptoSaid : Prop := fnExactTreeAtUptoRow.holds Try.pinned (OpenSpec.upto fnExactTreeAtSpec)

/-- 'laws.FnExactTreeKeys', WHERE WHAT IT READS IS OF BULK AT MOST 1048576: true; the input reads as it did. -/
def fnExactTreeKeysUptoRow : OpenClaim := { program := "ythpfihklkcnckaa", sum := "f06809d3912b8e2aeb1747689b16ac79819715b37bd711ce9d6f87df75f6bd19", func := "loop.example/g00467/laws.FnExactTreeKeys", spec := "fnExactTreeKeys", apart := false, narrowed := true }
def FnExactTreeKeysUptoSaid : Prop := fnExactTreeKeysUptoRow.holds Try.pinned (OpenSpec.upto fnExactTreeKeysSpec)

/-- 'laws.FnExactTreeOk', WHERE WHAT IT READS IS OF BULK AT MOST 1048576: true; the input reads as it did. -/
def fnExactTreeOkUptoRow : OpenClaim := { program := "ythpfihklkcnckaa", sum := "f06809d3912b8e2aeb1747689b16ac79819715b37bd711ce9d6f87df75f6bd19", func := "loop.example/g00467/laws.FnExactTreeOk", spec := "fnExactTreeOk", apart := false, narrowed := true }
def FnExactTreeOkUptoSaid : Prop := fnExactTreeOkUptoRow.holds Try.pinned (OpenSpec.upto fnExactTreeOkSpec)

end Rows
end Go.Proofs.Ythpfihklkcnckaa
