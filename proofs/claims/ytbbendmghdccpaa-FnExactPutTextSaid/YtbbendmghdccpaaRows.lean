/-
  No cell of these rows narrows 'for every input' (looked for: loops, veiled, ifaces, maps, wideKeys, modest, calm, conditions, laid).
  DERIVED. THE GIVEN ROWS OF THIS SEAT. 12 by the template 'for every input the law returns true; each argument reads behind the call as it read before'; 0 by the template 'total and deterministic' (their statements: YtbbendmghdccpaaTotals.lean).
  GIVEN WITH THE SEED: the statements are not yours to turn. If you find one false, say at which input.
  Laid BY PROGRAM, IN A SANDBOX (cutbox-rows.mjs): the forced cells as the released guide's own fill.sh prints them over the translation a7f41bc1ad2b184a… (all of the seat's roots in one cut). By AI agents, Wed Nov 11 2026. No macro, syntax, notation, axiom, sorry.
-/
import Derived.Test.YtbbendmghdccpaaChecked
import GoSem.Claim
import GoSem.ClaimJoined
import GoSem.ClaimMapViews
import Derived.JoinedTies
import Derived.KernelRfl
namespace Go.Proofs.Ytbbendmghdccpaa
/- THE CELL 'sum', in the pinned program and in every row, IS THE sha256 OF THE DUMP (.gsa) THAT YtbbendmghdccpaaProg.lean LOADS. Nothing in Lean hashes anything: it is a label: what it is worth is what the hold of that sum in a sandbox is worth. -/
noncomputable def Try.pinned : Pinned := { name := "ytbbendmghdccpaa", sum := "a7f41bc1ad2b184a92616face86896f3a05655849c4aa8de08ad75672df0899f", checked := Try.checked }
namespace Rows
def none {H : Type} : Left H := { results := [], args := [] }

/-- 'laws.FnExactConstants': WHATEVER THE INPUT: true; the input reads as it did. -/
def fnExactConstantsSpec : ChangeSpec := { name := "fnExactConstants", fn := fun _ => fun
  | [] => { results := [.lit (.bool true)], args := [] }
  | _ => none }
def fnExactConstantsRow : OpenClaim := { program := "ytbbendmghdccpaa", sum := "a7f41bc1ad2b184a92616face86896f3a05655849c4aa8de08ad75672df0899f", func := "loop.example/g00467/laws.FnExactConstants", spec := "fnExactConstants", apart := false }
def FnExactConstantsSaid : Prop := fnExactConstantsRow.holds Try.pinned (OpenSpec.ofChange fnExactConstantsSpec)

/-- ITS FALSE NEIGHBOUR: 'it returns false'. Refute it at one input. -/
def fnExactConstantsWrong : ChangeSpec := { name := "fnExactConstants", fn := fun _ => fun
  | [] => { results := [.lit (.bool false)], args := [] }
  | _ => none }
def FnExactConstantsWrongFalsely : Prop := fnExactConstantsRow.holds Try.pinned (OpenSpec.ofChange fnExactConstantsWrong)

/-- 'laws.FnExactSpotOf': WHATEVER THE INPUT: true; the input reads as it did. -/
def fnExactSpotOfSpec : ChangeSpec := { name := "fnExactSpotOf", fn := fun _ => fun
  | [d1, d2] => { results := [.lit (.bool true)], args := [d1, d2] }
  | _ => none }
def fnExactSpotOfRow : OpenClaim := { program := "ytbbendmghdccpaa", sum := "a7f41bc1ad2b184a92616face86896f3a05655849c4aa8de08ad75672df0899f", func := "loop.example/g00467/laws.FnExactSpotOf", spec := "fnExactSpotOf", apart := false }
def FnExactSpotOfSaid : Prop := fnExactSpotOfRow.holds Try.pinned (OpenSpec.ofChange fnExactSpotOfSpec)

/-- ITS FALSE NEIGHBOUR: 'it returns false'. Refute it at one input. -/
def fnExactSpotOfWrong : ChangeSpec := { name := "fnExactSpotOf", fn := fun _ => fun
  | [d1, d2] => { results := [.lit (.bool false)], args := [d1, d2] }
  | _ => none }
def FnExactSpotOfWrongFalsely : Prop := fnExactSpotOfRow.holds Try.pinned (OpenSpec.ofChange fnExactSpotOfWrong)

/-- 'laws.FnExactSameSpot': WHATEVER THE INPUT: true; the input reads as it did. -/
def fnExactSameSpotSpec : ChangeSpec := { name := "fnExactSameSpot", fn := fun _ => fun
  | [d1, d2] => { results := [.lit (.bool true)], args := [d1, d2] }
  | _ => none }
def fnExactSameSpotRow : OpenClaim := { program := "ytbbendmghdccpaa", sum := "a7f41bc1ad2b184a92616face86896f3a05655849c4aa8de08ad75672df0899f", func := "loop.example/g00467/laws.FnExactSameSpot", spec := "fnExactSameSpot", apart := false }
def FnExactSameSpotSaid : Prop := fnExactSameSpotRow.holds Try.pinned (OpenSpec.ofChange fnExactSameSpotSpec)

/-- ITS FALSE NEIGHBOUR: 'it returns false'. Refute it at one input. -/
def fnExactSameSpotWrong : ChangeSpec := { name := "fnExactSameSpot", fn := fun _ => fun
  | [d1, d2] => { results := [.lit (.bool false)], args := [d1, d2] }
  | _ => none }
def FnExactSameSpotWrongFalsely : Prop := fnExactSameSpotRow.holds Try.pinned (OpenSpec.ofChange fnExactSameSpotWrong)

/-- 'laws.FnExactLessKey': WHATEVER THE INPUT: true; the input reads as it did. -/
def fnExactLessKeySpec : ChangeSpec := { name := "fnExactLessKey", fn := fun _ => fun
  | [d1, d2] => { results := [.lit (.bool true)], args := [d1, d2] }
  | _ => none }
def fnExactLessKeyRow : OpenClaim := { program := "ytbbendmghdccpaa", sum := "a7f41bc1ad2b184a92616face86896f3a05655849c4aa8de08ad75672df0899f", func := "loop.example/g00467/laws.FnExactLessKey", spec := "fnExactLessKey", apart := false }
def FnExactLessKeySaid : Prop := fnExactLessKeyRow.holds Try.pinned (OpenSpec.ofChange fnExactLessKeySpec)

/-- ITS FALSE NEIGHBOUR: 'it returns false'. Refute it at one input. -/
def fnExactLessKeyWrong : ChangeSpec := { name := "fnExactLessKey", fn := fun _ => fun
  | [d1, d2] => { results := [.lit (.bool false)], args := [d1, d2] }
  | _ => none }
def FnExactLessKeyWrongFalsely : Prop := fnExactLessKeyRow.holds Try.pinned (OpenSpec.ofChange fnExactLessKeyWrong)

/-- 'laws.FnExactNameOk': WHATEVER THE INPUT: true; the input reads as it did. -/
def fnExactNameOkSpec : ChangeSpec := { name := "fnExactNameOk", fn := fun _ => fun
  | [d] => { results := [.lit (.bool true)], args := [d] }
  | _ => none }
def fnExactNameOkRow : OpenClaim := { program := "ytbbendmghdccpaa", sum := "a7f41bc1ad2b184a92616face86896f3a05655849c4aa8de08ad75672df0899f", func := "loop.example/g00467/laws.FnExactNameOk", spec := "fnExactNameOk", apart := false }
def FnExactNameOkSaid : Prop := fnExactNameOkRow.holds Try.pinned (OpenSpec.ofChange fnExactNameOkSpec)

/-- ITS FALSE NEIGHBOUR: 'it returns false'. Refute it at one input. -/
def fnExactNameOkWrong : ChangeSpec := { name := "fnExactNameOk", fn := fun _ => fun
  | [d] => { results := [.lit (.bool false)], args := [d] }
  | _ => none }
def FnExactNameOkWrongFalsely : Prop := fnExactNameOkRow.holds Try.pinned (OpenSpec.ofChange fnExactNameOkWrong)

/-- 'laws.FnExactKeyOk': WHATEVER THE INPUT: true; the input reads as it did. -/
def fnExactKeyOkSpec : ChangeSpec := { name := "fnExactKeyOk", fn := fun _ => fun
  | [d] => { results := [.lit (.bool true)], args := [d] }
  | _ => none }
def fnExactKeyOkRow : OpenClaim := { program := "ytbbendmghdccpaa", sum := "a7f41bc1ad2b184a92616face86896f3a05655849c4aa8de08ad75672df0899f", func := "loop.example/g00467/laws.FnExactKeyOk", spec := "fnExactKeyOk", apart := false }
def FnExactKeyOkSaid : Prop := fnExactKeyOkRow.holds Try.pinned (OpenSpec.ofChange fnExactKeyOkSpec)

/-- ITS FALSE NEIGHBOUR: 'it returns false'. Refute it at one input. -/
def fnExactKeyOkWrong : ChangeSpec := { name := "fnExactKeyOk", fn := fun _ => fun
  | [d] => { results := [.lit (.bool false)], args := [d] }
  | _ => none }
def FnExactKeyOkWrongFalsely : Prop := fnExactKeyOkRow.holds Try.pinned (OpenSpec.ofChange fnExactKeyOkWrong)

/-- 'laws.FnExactGetW': WHATEVER THE INPUT: true; the input reads as it did. -/
def fnExactGetWSpec : ChangeSpec := { name := "fnExactGetW", fn := fun _ => fun
  | [d1, d2] => { results := [.lit (.bool true)], args := [d1, d2] }
  | _ => none }
def fnExactGetWRow : OpenClaim := { program := "ytbbendmghdccpaa", sum := "a7f41bc1ad2b184a92616face86896f3a05655849c4aa8de08ad75672df0899f", func := "loop.example/g00467/laws.FnExactGetW", spec := "fnExactGetW", apart := false }
def FnExactGetWSaid : Prop := fnExactGetWRow.holds Try.pinned (OpenSpec.ofChange fnExactGetWSpec)

/-- ITS FALSE NEIGHBOUR: 'it returns false'. Refute it at one input. -/
def fnExactGetWWrong : ChangeSpec := { name := "fnExactGetW", fn := fun _ => fun
  | [d1, d2] => { results := [.lit (.bool false)], args := [d1, d2] }
  | _ => none }
def FnExactGetWWrongFalsely : Prop := fnExactGetWRow.holds Try.pinned (OpenSpec.ofChange fnExactGetWWrong)

/-- 'laws.FnExactGetText': WHATEVER THE INPUT: true; the input reads as it did. -/
def fnExactGetTextSpec : ChangeSpec := { name := "fnExactGetText", fn := fun _ => fun
  | [d1, d2] => { results := [.lit (.bool true)], args := [d1, d2] }
  | _ => none }
def fnExactGetTextRow : OpenClaim := { program := "ytbbendmghdccpaa", sum := "a7f41bc1ad2b184a92616face86896f3a05655849c4aa8de08ad75672df0899f", func := "loop.example/g00467/laws.FnExactGetText", spec := "fnExactGetText", apart := false }
def FnExactGetTextSaid : Prop := fnExactGetTextRow.holds Try.pinned (OpenSpec.ofChange fnExactGetTextSpec)

/-- ITS FALSE NEIGHBOUR: 'it returns false'. Refute it at one input. -/
def fnExactGetTextWrong : ChangeSpec := { name := "fnExactGetText", fn := fun _ => fun
  | [d1, d2] => { results := [.lit (.bool false)], args := [d1, d2] }
  | _ => none }
def FnExactGetTextWrongFalsely : Prop := fnExactGetTextRow.holds Try.pinned (OpenSpec.ofChange fnExactGetTextWrong)

/-- 'laws.FnExactCrc': WHATEVER THE INPUT: true; the input reads as it did. -/
def fnExactCrcSpec : ChangeSpec := { name := "fnExactCrc", fn := fun _ => fun
  | [d] => { results := [.lit (.bool true)], args := [d] }
  | _ => none }
def fnExactCrcRow : OpenClaim := { program := "ytbbendmghdccpaa", sum := "a7f41bc1ad2b184a92616face86896f3a05655849c4aa8de08ad75672df0899f", func := "loop.example/g00467/laws.FnExactCrc", spec := "fnExactCrc", apart := false }
def FnExactCrcSaid : Prop := fnExactCrcRow.holds Try.pinned (OpenSpec.ofChange fnExactCrcSpec)

/-- ITS FALSE NEIGHBOUR: 'it returns false'. Refute it at one input. -/
def fnExactCrcWrong : ChangeSpec := { name := "fnExactCrc", fn := fun _ => fun
  | [d] => { results := [.lit (.bool false)], args := [d] }
  | _ => none }
def FnExactCrcWrongFalsely : Prop := fnExactCrcRow.holds Try.pinned (OpenSpec.ofChange fnExactCrcWrong)

/-- 'laws.FnExactPutW': WHATEVER THE INPUT: true; the input reads as it did. -/
def fnExactPutWSpec : ChangeSpec := { name := "fnExactPutW", fn := fun _ => fun
  | [d1, d2] => { results := [.lit (.bool true)], args := [d1, d2] }
  | _ => none }
def fnExactPutWRow : OpenClaim := { program := "ytbbendmghdccpaa", sum := "a7f41bc1ad2b184a92616face86896f3a05655849c4aa8de08ad75672df0899f", func := "loop.example/g00467/laws.FnExactPutW", spec := "fnExactPutW", apart := false }
def FnExactPutWSaid : Prop := fnExactPutWRow.holds Try.pinned (OpenSpec.ofChange fnExactPutWSpec)

/-- ITS FALSE NEIGHBOUR: 'it returns false'. Refute it at one input. -/
def fnExactPutWWrong : ChangeSpec := { name := "fnExactPutW", fn := fun _ => fun
  | [d1, d2] => { results := [.lit (.bool false)], args := [d1, d2] }
  | _ => none }
def FnExactPutWWrongFalsely : Prop := fnExactPutWRow.holds Try.pinned (OpenSpec.ofChange fnExactPutWWrong)

/-- 'laws.FnExactPutText': WHATEVER THE INPUT: true; the input reads as it did. -/
def fnExactPutTextSpec : ChangeSpec := { name := "fnExactPutText", fn := fun _ => fun
  | [d1, d2] => { results := [.lit (.bool true)], args := [d1, d2] }
  | _ => none }
def fnExactPutTextRow : OpenClaim := { program := "ytbbendmghdccpaa", sum := "a7f41bc1ad2b184a92616face86896f3a05655849c4aa8de08ad75672df0899f", func := "loop.example/g00467/laws.FnExactPutText", spec := "fnExactPutText", apart := false }
def FnExactPutTextSaid : Prop := fnExactPutTextRow.holds Try.pinned (OpenSpec.ofChange fnExactPutTextSpec)

/-- ITS FALSE NEIGHBOUR: 'it returns false'. Refute it at one input. -/
def fnExactPutTextWrong : ChangeSpec := { name := "fnExactPutText", fn := fun _ => fun
  | [d1, d2] => { results := [.lit (.bool false)], args := [d1, d2] }
  | _ => none }
def FnExactPutTextWrongFalsely : Prop := fnExactPutTextRow.holds Try.pinned (OpenSpec.ofChange fnExactPutTextWrong)

/-- 'laws.FnCrc': WHATEVER THE INPUT: true; the input reads as it did. -/
def fnCrcSpec : ChangeSpec := { name := "fnCrc", fn := fun _ => fun
  | [d] => { results := [.lit (.bool true)], args := [d] }
  | _ => none }
def fnCrcRow : OpenClaim := { program := "ytbbendmghdccpaa", sum := "a7f41bc1ad2b184a92616face86896f3a05655849c4aa8de08ad75672df0899f", func := "loop.example/g00467/laws.FnCrc", spec := "fnCrc", apart := false }
def FnCrcSaid : Prop := fnCrcRow.holds Try.pinned (OpenSpec.ofChange fnCrcSpec)

/-- ITS FALSE NEIGHBOUR: 'it returns false'. Refute it at one input. -/
def fnCrcWrong : ChangeSpec := { name := "fnCrc", fn := fun _ => fun
  | [d] => { results := [.lit (.bool false)], args := [d] }
  | _ => none }
def FnCrcWrongFalsely : Prop := fnCrcRow.holds Try.pinned (OpenSpec.ofChange fnCrcWrong)

/- THE SECOND FORM. 'bulk': how many values and letters a reading holds, each counted each time it is reached (what is shared counts as often as it is met; a slice's spare places count too). A statement '..UptoSaid' is the law's where the arguments, and the package variables that the reading takes, are together of bulk at most 1048576: NARROWER than '..Said'. Prove '..Said' where nothing that the law and all that it calls make is longer than what came in: it says more and counts as full. Else prove '..UptoSaid'. A law counts once. -/
mutual
def uptoBulk {H : Type} : DataW H → Nat
  | .lit (.string bytes) => bytes.length + 1
  | .lit _ => 1
  | .nil => 1
  | .ptr d => uptoBulk d + 1
  | .slice elems spare => uptoBulkAll elems + uptoBulkAll spare + 1
  | .agg parts => uptoBulkAll parts + 1
  | .iface _ d => uptoBulk d + 1
  | .map entries => uptoBulkEntries entries + 1
  | .held _ => 1
def uptoBulkAll {H : Type} : List (DataW H) → Nat
  | [] => 0
  | d :: r => uptoBulk d + uptoBulkAll r
def uptoBulkEntries {H : Type} : List (Lit × DataW H) → Nat
  | [] => 0
  | x :: r => uptoBulkEntry x + uptoBulkEntries r
def uptoBulkEntry {H : Type} : Lit × DataW H → Nat
  | (.string bytes, d) => bytes.length + uptoBulk d + 1
  | (_, d) => uptoBulk d + 1
 end
def uptoSmall : (H : Type) → List (DataW H) → Bool := fun _ ds => decide (uptoBulkAll ds ≤ 1048576)
def OpenSpec.upto (s : _root_.Go.ChangeSpec) : _root_.Go.OpenSpec := { _root_.Go.OpenSpec.ofChange s with cond := some uptoSmall }

/-- 'laws.FnExactConstants', WHERE WHAT IT READS IS OF BULK AT MOST 1048576: true; the input reads as it did. -/
def fnExactConstantsUptoRow : OpenClaim := { program := "ytbbendmghdccpaa", sum := "a7f41bc1ad2b184a92616face86896f3a05655849c4aa8de08ad75672df0899f", func := "loop.example/g00467/laws.FnExactConstants", spec := "fnExactConstants", apart := false, narrowed := true }
def FnExactConstantsUptoSaid : Prop := fnExactConstantsUptoRow.holds Try.pinned (OpenSpec.upto fnExactConstantsSpec)

/-- 'laws.FnExactSpotOf', WHERE WHAT IT READS IS OF BULK AT MOST 1048576: true; the input reads as it did. -/
def fnExactSpotOfUptoRow : OpenClaim := { program := "ytbbendmghdccpaa", sum := "a7f41bc1ad2b184a92616face86896f3a05655849c4aa8de08ad75672df0899f", func := "loop.example/g00467/laws.FnExactSpotOf", spec := "fnExactSpotOf", apart := false, narrowed := true }
def FnExactSpotOfUptoSaid : Prop := fnExactSpotOfUptoRow.holds Try.pinned (OpenSpec.upto fnExactSpotOfSpec)

/-- 'laws.FnExactSameSpot', WHERE WHAT IT READS IS OF BULK AT MOST 1048576: true; the input reads as it did. -/
def fnExactSameSpotUptoRow : OpenClaim := { program := "ytbbendmghdccpaa", sum := "a7f41bc1ad2b184a92616face86896f3a05655849c4aa8de08ad75672df0899f", func := "loop.example/g00467/laws.FnExactSameSpot", spec := "fnExactSameSpot", apart := false, narrowed := true }
def FnExactSameSpotUptoSaid : Prop := fnExactSameSpotUptoRow.holds Try.pinned (OpenSpec.upto fnExactSameSpotSpec)

/-- 'laws.FnExactLessKey', WHERE WHAT IT READS IS OF BULK AT MOST 1048576: true; the input reads as it did. -/
def fnExactLessKeyUptoRow : OpenClaim := { program := "ytbbendmghdccpaa", sum := "a7f41bc1ad2b184a92616face86896f3a05655849c4aa8de08ad75672df0899f", func := "loop.example/g00467/laws.FnExactLessKey", spec := "fnExactLessKey", apart := false, narrowed := true }
def FnExactLessKeyUptoSaid : Prop := fnExactLessKeyUptoRow.holds Try.pinned (OpenSpec.upto fnExactLessKeySpec)

/-- 'laws.FnExactNameOk', WHERE WHAT IT READS IS OF BULK AT MOST 1048576: true; the input reads as it did. -/
def fnExactNameOkUptoRow : OpenClaim := { program := "ytbbendmghdccpaa", sum := "a7f41bc1ad2b184a92616face86896f3a05655849c4aa8de08ad75672df0899f", func := "loop.example/g00467/laws.FnExactNameOk", spec := "fnExactNameOk", apart := false, narrowed := true }
def FnExactNameOkUptoSaid : Prop := fnExactNameOkUptoRow.holds Try.pinned (OpenSpec.upto fnExactNameOkSpec)

/-- 'laws.FnExactKeyOk', WHERE WHAT IT READS IS OF BULK AT MOST 1048576: true; the input reads as it did. -/
def fnExactKeyOkUptoRow : OpenClaim := { program := "ytbbendmghdccpaa", sum := "a7f41bc1ad2b184a92616face86896f3a05655849c4aa8de08ad75672df0899f", func := "loop.example/g00467/laws.FnExactKeyOk", spec := "fnExactKeyOk", apart := false, narrowed := true }
def FnExactKeyOkUptoSaid : Prop := fnExactKeyOkUptoRow.holds Try.pinned (OpenSpec.upto fnExactKeyOkSpec)

/-- 'laws.FnExactGetW', WHERE WHAT IT READS IS OF BULK AT MOST 1048576: true; the input reads as it did. -/
def fnExactGetWUptoRow : OpenClaim := { program := "ytbbendmghdccpaa", sum := "a7f41bc1ad2b184a92616face86896f3a05655849c4aa8de08ad75672df0899f", func := "loop.example/g00467/laws.FnExactGetW", spec := "fnExactGetW", apart := false, narrowed := true }
def FnExactGetWUptoSaid : Prop := fnExactGetWUptoRow.holds Try.pinned (OpenSpec.upto fnExactGetWSpec)

/-- 'laws.FnExactGetText', WHERE WHAT IT READS IS OF BULK AT MOST 1048576: true; the input reads as it did. -/
def fnExactGetTextUptoRow : OpenClaim := { program := "ytbbendmghdccpaa", sum := "a7f41bc1ad2b184a92616face86896f3a05655849c4aa8de08ad75672df0899f", func := "loop.example/g00467/laws.FnExactGetText", spec := "fnExactGetText", apart := false, narrowed := true }
def FnExactGetTextUptoSaid : Prop := fnExactGetTextUptoRow.holds Try.pinned (OpenSpec.upto fnExactGetTextSpec)

/-- 'laws.FnExactCrc', WHERE WHAT IT READS IS OF BULK AT MOST 1048576: true; the input reads as it did. -/
def fnExactCrcUptoRow : OpenClaim := { program := "ytbbendmghdccpaa", sum := "a7f41bc1ad2b184a92616face86896f3a05655849c4aa8de08ad75672df0899f", func := "loop.example/g00467/laws.FnExactCrc", spec := "fnExactCrc", apart := false, narrowed := true }
def FnExactCrcUptoSaid : Prop := fnExactCrcUptoRow.holds Try.pinned (OpenSpec.upto fnExactCrcSpec)

/-- 'laws.FnExactPutW', WHERE WHAT IT READS IS OF BULK AT MOST 1048576: true; the input reads as it did. -/
def fnExactPutWUptoRow : OpenClaim := { program := "ytbbendmghdccpaa", sum := "a7f41bc1ad2b184a92616face86896f3a05655849c4aa8de08ad75672df0899f", func := "loop.example/g00467/laws.FnExactPutW", spec := "fnExactPutW", apart := false, narrowed := true }
def FnExactPutWUptoSaid : Prop := fnExactPutWUptoRow.holds Try.pinned (OpenSpec.upto fnExactPutWSpec)

/-- 'laws.FnExactPutText', WHERE WHAT IT READS IS OF BULK AT MOST 1048576: true; the input reads as it did. -/
def fnExactPutTextUptoRow : OpenClaim := { program := "ytbbendmghdccpaa", sum := "a7f41bc1ad2b184a92616face86896f3a05655849c4aa8de08ad75672df0899f", func := "loop.example/g00467/laws.FnExactPutText", spec := "fnExactPutText", apart := false, narrowed := true }
def FnExactPutTextUptoSaid : Prop := fnExactPutTextUptoRow.holds Try.pinned (OpenSpec.upto fnExactPutTextSpec)

/-- 'laws.FnCrc', WHERE WHAT IT READS IS OF BULK AT MOST 1048576: true; the input reads as it did. -/
def fnCrcUptoRow : OpenClaim := { program := "ytbbendmghdccpaa", sum := "a7f41bc1ad2b184a92616face86896f3a05655849c4aa8de08ad75672df0899f", func := "loop.example/g00467/laws.FnCrc", spec := "fnCrc", apart := false, narrowed := true }
def FnCrcUptoSaid : Prop := fnCrcUptoRow.holds Try.pinned (OpenSpec.upto fnCrcSpec)

end Rows
end Go.Proofs.Ytbbendmghdccpaa
