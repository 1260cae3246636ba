/-
  No cell of these rows narrows 'for every input' (looked for: loops, veiled, ifaces, maps, wideKeys, modest, calm, conditions, laid).
  DERIVED. THE GIVEN ROWS OF THIS SEAT. 11 by the template 'for every input the law returns true; each argument reads behind the call as it read before'; 0 by the template 'total and deterministic' (their statements: YtkaoiaolbhklnaaTotals.lean).
  GIVEN WITH THE SEED: the statements are not yours to turn. If you find one false, say at which input.
  Laid BY PROGRAM, IN A SANDBOX (cutbox-rows.mjs): the forced cells as the released guide's own fill.sh prints them over the translation 0a9df12d09ca3b5a… (all of the seat's roots in one cut). By AI agents, Wed Nov 11 2026. No macro, syntax, notation, axiom, sorry.
-/
import Derived.Test.YtkaoiaolbhklnaaChecked
import GoSem.Claim
import GoSem.ClaimJoined
import GoSem.ClaimMapViews
import Derived.JoinedTies
import Derived.KernelRfl
namespace Go.Proofs.Ytkaoiaolbhklnaa
/- THE CELL 'sum', in the pinned program and in every row, IS THE sha256 OF THE DUMP (.gsa) THAT YtkaoiaolbhklnaaProg.lean LOADS. Nothing in Lean hashes anything: it is a label: what it is worth is what the hold of that sum in a sandbox is worth. -/
noncomputable def Try.pinned : Pinned := { name := "ytkaoiaolbhklnaa", sum := "0a9df12d09ca3b5ae912802d5c72489819ab4e8ccf99168e02eabe706682af3e", checked := Try.checked }
namespace Rows
def none {H : Type} : Left H := { results := [], args := [] }

/-- 'laws.FnExactPutKey': WHATEVER THE INPUT: true; the input reads as it did. -/
def fnExactPutKeySpec : ChangeSpec := { name := "fnExactPutKey", fn := fun _ => fun
  | [d1, d2] => { results := [.lit (.bool true)], args := [d1, d2] }
  | _ => none }
def fnExactPutKeyRow : OpenClaim := { program := "ytkaoiaolbhklnaa", sum := "0a9df12d09ca3b5ae912802d5c72489819ab4e8ccf99168e02eabe706682af3e", func := "loop.example/g00467/laws.FnExactPutKey", spec := "fnExactPutKey", apart := false }
def FnExactPutKeySaid : Prop := fnExactPutKeyRow.holds Try.pinned (OpenSpec.ofChange fnExactPutKeySpec)

/-- ITS FALSE NEIGHBOUR: 'it returns false'. Refute it at one input. -/
def fnExactPutKeyWrong : ChangeSpec := { name := "fnExactPutKey", fn := fun _ => fun
  | [d1, d2] => { results := [.lit (.bool false)], args := [d1, d2] }
  | _ => none }
def FnExactPutKeyWrongFalsely : Prop := fnExactPutKeyRow.holds Try.pinned (OpenSpec.ofChange fnExactPutKeyWrong)

/-- 'laws.FnExactGetKey': WHATEVER THE INPUT: true; the input reads as it did. -/
def fnExactGetKeySpec : ChangeSpec := { name := "fnExactGetKey", fn := fun _ => fun
  | [d1, d2] => { results := [.lit (.bool true)], args := [d1, d2] }
  | _ => none }
def fnExactGetKeyRow : OpenClaim := { program := "ytkaoiaolbhklnaa", sum := "0a9df12d09ca3b5ae912802d5c72489819ab4e8ccf99168e02eabe706682af3e", func := "loop.example/g00467/laws.FnExactGetKey", spec := "fnExactGetKey", apart := false }
def FnExactGetKeySaid : Prop := fnExactGetKeyRow.holds Try.pinned (OpenSpec.ofChange fnExactGetKeySpec)

/-- ITS FALSE NEIGHBOUR: 'it returns false'. Refute it at one input. -/
def fnExactGetKeyWrong : ChangeSpec := { name := "fnExactGetKey", fn := fun _ => fun
  | [d1, d2] => { results := [.lit (.bool false)], args := [d1, d2] }
  | _ => none }
def FnExactGetKeyWrongFalsely : Prop := fnExactGetKeyRow.holds Try.pinned (OpenSpec.ofChange fnExactGetKeyWrong)

/-- 'laws.FnKeys': WHATEVER THE INPUT: true; the input reads as it did. -/
def fnKeysSpec : ChangeSpec := { name := "fnKeys", fn := fun _ => fun
  | [d] => { results := [.lit (.bool true)], args := [d] }
  | _ => none }
def fnKeysRow : OpenClaim := { program := "ytkaoiaolbhklnaa", sum := "0a9df12d09ca3b5ae912802d5c72489819ab4e8ccf99168e02eabe706682af3e", func := "loop.example/g00467/laws.FnKeys", spec := "fnKeys", apart := false }
def FnKeysSaid : Prop := fnKeysRow.holds Try.pinned (OpenSpec.ofChange fnKeysSpec)

/-- ITS FALSE NEIGHBOUR: 'it returns false'. Refute it at one input. -/
def fnKeysWrong : ChangeSpec := { name := "fnKeys", fn := fun _ => fun
  | [d] => { results := [.lit (.bool false)], args := [d] }
  | _ => none }
def FnKeysWrongFalsely : Prop := fnKeysRow.holds Try.pinned (OpenSpec.ofChange fnKeysWrong)

/-- 'laws.FnWords': WHATEVER THE INPUT: true; the input reads as it did. -/
def fnWordsSpec : ChangeSpec := { name := "fnWords", fn := fun _ => fun
  | [d] => { results := [.lit (.bool true)], args := [d] }
  | _ => none }
def fnWordsRow : OpenClaim := { program := "ytkaoiaolbhklnaa", sum := "0a9df12d09ca3b5ae912802d5c72489819ab4e8ccf99168e02eabe706682af3e", func := "loop.example/g00467/laws.FnWords", spec := "fnWords", apart := false }
def FnWordsSaid : Prop := fnWordsRow.holds Try.pinned (OpenSpec.ofChange fnWordsSpec)

/-- ITS FALSE NEIGHBOUR: 'it returns false'. Refute it at one input. -/
def fnWordsWrong : ChangeSpec := { name := "fnWords", fn := fun _ => fun
  | [d] => { results := [.lit (.bool false)], args := [d] }
  | _ => none }
def FnWordsWrongFalsely : Prop := fnWordsRow.holds Try.pinned (OpenSpec.ofChange fnWordsWrong)

/-- 'laws.FnExactSetAt': WHATEVER THE INPUT: true; the input reads as it did. -/
def fnExactSetAtSpec : ChangeSpec := { name := "fnExactSetAt", fn := fun _ => fun
  | [d1, d2, d3] => { results := [.lit (.bool true)], args := [d1, d2, d3] }
  | _ => none }
def fnExactSetAtRow : OpenClaim := { program := "ytkaoiaolbhklnaa", sum := "0a9df12d09ca3b5ae912802d5c72489819ab4e8ccf99168e02eabe706682af3e", func := "loop.example/g00467/laws.FnExactSetAt", spec := "fnExactSetAt", apart := false }
def FnExactSetAtSaid : Prop := fnExactSetAtRow.holds Try.pinned (OpenSpec.ofChange fnExactSetAtSpec)

/-- ITS FALSE NEIGHBOUR: 'it returns false'. Refute it at one input. -/
def fnExactSetAtWrong : ChangeSpec := { name := "fnExactSetAt", fn := fun _ => fun
  | [d1, d2, d3] => { results := [.lit (.bool false)], args := [d1, d2, d3] }
  | _ => none }
def FnExactSetAtWrongFalsely : Prop := fnExactSetAtRow.holds Try.pinned (OpenSpec.ofChange fnExactSetAtWrong)

/-- 'laws.FnExactSetOk': WHATEVER THE INPUT: true; the input reads as it did. -/
def fnExactSetOkSpec : ChangeSpec := { name := "fnExactSetOk", fn := fun _ => fun
  | [d] => { results := [.lit (.bool true)], args := [d] }
  | _ => none }
def fnExactSetOkRow : OpenClaim := { program := "ytkaoiaolbhklnaa", sum := "0a9df12d09ca3b5ae912802d5c72489819ab4e8ccf99168e02eabe706682af3e", func := "loop.example/g00467/laws.FnExactSetOk", spec := "fnExactSetOk", apart := false }
def FnExactSetOkSaid : Prop := fnExactSetOkRow.holds Try.pinned (OpenSpec.ofChange fnExactSetOkSpec)

/-- ITS FALSE NEIGHBOUR: 'it returns false'. Refute it at one input. -/
def fnExactSetOkWrong : ChangeSpec := { name := "fnExactSetOk", fn := fun _ => fun
  | [d] => { results := [.lit (.bool false)], args := [d] }
  | _ => none }
def FnExactSetOkWrongFalsely : Prop := fnExactSetOkRow.holds Try.pinned (OpenSpec.ofChange fnExactSetOkWrong)

/-- 'laws.FnExactDrop': WHATEVER THE INPUT: true; the input reads as it did. -/
def fnExactDropSpec : ChangeSpec := { name := "fnExactDrop", fn := fun _ => fun
  | [d] => { results := [.lit (.bool true)], args := [d] }
  | _ => none }
def fnExactDropRow : OpenClaim := { program := "ytkaoiaolbhklnaa", sum := "0a9df12d09ca3b5ae912802d5c72489819ab4e8ccf99168e02eabe706682af3e", func := "loop.example/g00467/laws.FnExactDrop", spec := "fnExactDrop", apart := false }
def FnExactDropSaid : Prop := fnExactDropRow.holds Try.pinned (OpenSpec.ofChange fnExactDropSpec)

/-- ITS FALSE NEIGHBOUR: 'it returns false'. Refute it at one input. -/
def fnExactDropWrong : ChangeSpec := { name := "fnExactDrop", fn := fun _ => fun
  | [d] => { results := [.lit (.bool false)], args := [d] }
  | _ => none }
def FnExactDropWrongFalsely : Prop := fnExactDropRow.holds Try.pinned (OpenSpec.ofChange fnExactDropWrong)

/-- 'laws.FnExactSetPut': WHATEVER THE INPUT: true; the input reads as it did. -/
def fnExactSetPutSpec : ChangeSpec := { name := "fnExactSetPut", fn := fun _ => fun
  | [d1, d2] => { results := [.lit (.bool true)], args := [d1, d2] }
  | _ => none }
def fnExactSetPutRow : OpenClaim := { program := "ytkaoiaolbhklnaa", sum := "0a9df12d09ca3b5ae912802d5c72489819ab4e8ccf99168e02eabe706682af3e", func := "loop.example/g00467/laws.FnExactSetPut", spec := "fnExactSetPut", apart := false }
def FnExactSetPutSaid : Prop := fnExactSetPutRow.holds Try.pinned (OpenSpec.ofChange fnExactSetPutSpec)

/-- ITS FALSE NEIGHBOUR: 'it returns false'. Refute it at one input. -/
def fnExactSetPutWrong : ChangeSpec := { name := "fnExactSetPut", fn := fun _ => fun
  | [d1, d2] => { results := [.lit (.bool false)], args := [d1, d2] }
  | _ => none }
def FnExactSetPutWrongFalsely : Prop := fnExactSetPutRow.holds Try.pinned (OpenSpec.ofChange fnExactSetPutWrong)

/-- 'laws.FnSets': WHATEVER THE INPUT: true; the input reads as it did. -/
def fnSetsSpec : ChangeSpec := { name := "fnSets", fn := fun _ => fun
  | [d] => { results := [.lit (.bool true)], args := [d] }
  | _ => none }
def fnSetsRow : OpenClaim := { program := "ytkaoiaolbhklnaa", sum := "0a9df12d09ca3b5ae912802d5c72489819ab4e8ccf99168e02eabe706682af3e", func := "loop.example/g00467/laws.FnSets", spec := "fnSets", apart := false }
def FnSetsSaid : Prop := fnSetsRow.holds Try.pinned (OpenSpec.ofChange fnSetsSpec)

/-- ITS FALSE NEIGHBOUR: 'it returns false'. Refute it at one input. -/
def fnSetsWrong : ChangeSpec := { name := "fnSets", fn := fun _ => fun
  | [d] => { results := [.lit (.bool false)], args := [d] }
  | _ => none }
def FnSetsWrongFalsely : Prop := fnSetsRow.holds Try.pinned (OpenSpec.ofChange fnSetsWrong)

/-- 'laws.FnExactMergeSets': WHATEVER THE INPUT: true; the input reads as it did. -/
def fnExactMergeSetsSpec : ChangeSpec := { name := "fnExactMergeSets", fn := fun _ => fun
  | [d1, d2] => { results := [.lit (.bool true)], args := [d1, d2] }
  | _ => none }
def fnExactMergeSetsRow : OpenClaim := { program := "ytkaoiaolbhklnaa", sum := "0a9df12d09ca3b5ae912802d5c72489819ab4e8ccf99168e02eabe706682af3e", func := "loop.example/g00467/laws.FnExactMergeSets", spec := "fnExactMergeSets", apart := false }
def FnExactMergeSetsSaid : Prop := fnExactMergeSetsRow.holds Try.pinned (OpenSpec.ofChange fnExactMergeSetsSpec)

/-- ITS FALSE NEIGHBOUR: 'it returns false'. Refute it at one input. -/
def fnExactMergeSetsWrong : ChangeSpec := { name := "fnExactMergeSets", fn := fun _ => fun
  | [d1, d2] => { results := [.lit (.bool false)], args := [d1, d2] }
  | _ => none }
def FnExactMergeSetsWrongFalsely : Prop := fnExactMergeSetsRow.holds Try.pinned (OpenSpec.ofChange fnExactMergeSetsWrong)

/-- 'laws.FnSetsBent': WHATEVER THE INPUT: true; the input reads as it did. -/
def fnSetsBentSpec : ChangeSpec := { name := "fnSetsBent", fn := fun _ => fun
  | [d] => { results := [.lit (.bool true)], args := [d] }
  | _ => none }
def fnSetsBentRow : OpenClaim := { program := "ytkaoiaolbhklnaa", sum := "0a9df12d09ca3b5ae912802d5c72489819ab4e8ccf99168e02eabe706682af3e", func := "loop.example/g00467/laws.FnSetsBent", spec := "fnSetsBent", apart := false }
def FnSetsBentSaid : Prop := fnSetsBentRow.holds Try.pinned (OpenSpec.ofChange fnSetsBentSpec)

/-- ITS FALSE NEIGHBOUR: 'it returns false'. Refute it at one input. -/
def fnSetsBentWrong : ChangeSpec := { name := "fnSetsBent", fn := fun _ => fun
  | [d] => { results := [.lit (.bool false)], args := [d] }
  | _ => none }
def FnSetsBentWrongFalsely : Prop := fnSetsBentRow.holds Try.pinned (OpenSpec.ofChange fnSetsBentWrong)

/- THE SECOND FORM. 'bulk': how many values and letters a reading holds, each counted each time it is reached (what is shared counts as often as it is met; a slice's spare places count too). A statement '..UptoSaid' is the law's where the arguments, and the package variables that the reading takes, are together of bulk at most 1048576: NARROWER than '..Said'. Prove '..Said' where nothing that the law and all that it calls make is longer than what came in: it says more and counts as full. Else prove '..UptoSaid'. A law counts once. -/
mutual
def uptoBulk {H : Type} : DataW H → Nat
  | .lit (.string bytes) => bytes.length + 1
  | .lit _ => 1
  | .nil => 1
  | .ptr d => uptoBulk d + 1
  | .slice elems spare => uptoBulkAll elems + uptoBulkAll spare + 1
  | .agg parts => uptoBulkAll parts + 1
  | .iface _ d => uptoBulk d + 1
  | .map entries => uptoBulkEntries entries + 1
  | .held _ => 1
def uptoBulkAll {H : Type} : List (DataW H) → Nat
  | [] => 0
  | d :: r => uptoBulk d + uptoBulkAll r
def uptoBulkEntries {H : Type} : List (Lit × DataW H) → Nat
  | [] => 0
  | x :: r => uptoBulkEntry x + uptoBulkEntries r
def uptoBulkEntry {H : Type} : Lit × DataW H → Nat
  | (.string bytes, d) => bytes.length + uptoBulk d + 1
  | (_, d) => uptoBulk d + 1
 end
def uptoSmall : (H : Type) → List (DataW H) → Bool := fun _ ds => decide (uptoBulkAll ds ≤ 1048576)
def OpenSpec.upto (s : _root_.Go.ChangeSpec) : _root_.Go.OpenSpec := { _root_.Go.OpenSpec.ofChange s with cond := some uptoSmall }

/-- 'laws.FnExactPutKey', WHERE WHAT IT READS IS OF BULK AT MOST 1048576: true; the input reads as it did. -/
def fnExactPutKeyUptoRow : OpenClaim := { program := "ytkaoiaolbhklnaa", sum := "0a9df12d09ca3b5ae912802d5c72489819ab4e8ccf99168e02eabe706682af3e", func := "loop.example/g00467/laws.FnExactPutKey", spec := "fnExactPutKey", apart := false, narrowed := true }
def FnExactPutKeyUptoSaid : Prop := fnExactPutKeyUptoRow.holds Try.pinned (OpenSpec.upto fnExactPutKeySpec)

/-- 'laws.FnExactGetKey', WHERE WHAT IT READS IS OF BULK AT MOST 1048576: true; the input reads as it did. -/
def fnExactGetKeyUptoRow : OpenClaim := { program := "ytkaoiaolbhklnaa", sum := "0a9df12d09ca3b5ae912802d5c72489819ab4e8ccf99168e02eabe706682af3e", func := "loop.example/g00467/laws.FnExactGetKey", spec := "fnExactGetKey", apart := false, narrowed := true }
def FnExactGetKeyUptoSaid : Prop := fnExactGetKeyUptoRow.holds Try.pinned (OpenSpec.upto fnExactGetKeySpec)

/-- 'laws.FnKeys', WHERE WHAT IT READS IS OF BULK AT MOST 1048576: true; the input reads as it did. -/
def fnKeysUptoRow : OpenClaim := { program := "ytkaoiaolbhklnaa", sum := "0a9df12d09ca3b5ae912802d5c72489819ab4e8ccf99168e02eabe706682af3e", func := "loop.example/g00467/laws.FnKeys", spec := "fnKeys", apart := false, narrowed := true }
def FnKeysUptoSaid : Prop := fnKeysUptoRow.holds Try.pinned (OpenSpec.upto fnKeysSpec)

/-- 'laws.FnWords', WHERE WHAT IT READS IS OF BULK AT MOST 1048576: true; the input reads as it did. -/
def fnWordsUptoRow : OpenClaim := { program := "ytkaoiaolbhklnaa", sum := "0a9df12d09ca3b5ae912802d5c72489819ab4e8ccf99168e02eabe706682af3e", func := "loop.example/g00467/laws.FnWords", spec := "fnWords", apart := false, narrowed := true }
def FnWordsUptoSaid : Prop := fnWordsUptoRow.holds Try.pinned (OpenSpec.upto fnWordsSpec)

/-- 'laws.FnExactSetAt', WHERE WHAT IT READS IS OF BULK AT MOST 1048576: true; the input reads as it did. -/
def fnExactSetAtUptoRow : OpenClaim := { program := "ytkaoiaolbhklnaa", sum := "0a9df12d09ca3b5ae912802d5c72489819ab4e8ccf99168e02eabe706682af3e", func := "loop.example/g00467/laws.FnExactSetAt", spec := "fnExactSetAt", apart := false, narrowed := true }
def FnExactSetAtUptoSaid : Prop := fnExactSetAtUptoRow.holds Try.pinned (OpenSpec.upto fnExactSetAtSpec)

/-- 'laws.FnExactSetOk', WHERE WHAT IT READS IS OF BULK AT MOST 1048576: true; the input reads as it did. -/
def fnExactSetOkUptoRow : OpenClaim := { program := "ytkaoiaolbhklnaa", sum := "0a9df12d09ca3b5ae912802d5c72489819ab4e8ccf99168e02eabe706682af3e", func := "loop.example/g00467/laws.FnExactSetOk", spec := "fnExactSetOk", apart := false, narrowed := true }
def FnExactSetOkUptoSaid : Prop := fnExactSetOkUptoRow.holds Try.pinned (OpenSpec.upto fnExactSetOkSpec)

/-- 'laws.FnExactDrop', WHERE WHAT IT READS IS OF BULK AT MOST 1048576: true; the input reads as it did. -/
def fnExactDropUptoRow : OpenClaim := { program := "ytkaoiaolbhklnaa", sum := "0a9df12d09ca3b5ae912802d5c72489819ab4e8ccf99168e02eabe706682af3e", func := "loop.example/g00467/laws.FnExactDrop", spec := "fnExactDrop", apart := false, narrowed := true }
def FnExactDropUptoSaid : Prop := fnExactDropUptoRow.holds Try.pinned (OpenSpec.upto fnExactDropSpec)

/-- 'laws.FnExactSetPut', WHERE WHAT IT READS IS OF BULK AT MOST 1048576: true; the input reads as it did. -/
def fnExactSetPutUptoRow : OpenClaim := { program := "ytkaoiaolbhklnaa", sum := "0a9df12d09ca3b5ae912802d5c72489819ab4e8ccf99168e02eabe706682af3e", func := "loop.example/g00467/laws.FnExactSetPut", spec := "fnExactSetPut", apart := false, narrowed := true }
def FnExactSetPutUptoSaid : Prop := fnExactSetPutUptoRow.holds Try.pinned (OpenSpec.upto fnExactSetPutSpec)

/-- 'laws.FnSets', WHERE WHAT IT READS IS OF BULK AT MOST 1048576: true; the input reads as it did. -/
def fnSetsUptoRow : OpenClaim := { program := "ytkaoiaolbhklnaa", sum := "0a9df12d09ca3b5ae912802d5c72489819ab4e8ccf99168e02eabe706682af3e", func := "loop.example/g00467/laws.FnSets", spec := "fnSets", apart := false, narrowed := true }
def FnSetsUptoSaid : Prop := fnSetsUptoRow.holds Try.pinned (OpenSpec.upto fnSetsSpec)

/-- 'laws.FnExactMergeSets', WHERE WHAT IT READS IS OF BULK AT MOST 1048576: true; the input reads as it did. -/
def fnExactMergeSetsUptoRow : OpenClaim := { program := "ytkaoiaolbhklnaa", sum := "0a9df12d09ca3b5ae912802d5c72489819ab4e8ccf99168e02eabe706682af3e", func := "loop.example/g00467/laws.FnExactMergeSets", spec := "fnExactMergeSets", apart := false, narrowed := true }
def FnExactMergeSetsUptoSaid : Prop := fnExactMergeSetsUptoRow.holds Try.pinned (OpenSpec.upto fnExactMergeSetsSpec)

/-- 'laws.FnSetsBent', WHERE WHAT IT READS IS OF BULK AT MOST 1048576: true; the input reads as it did. -/
def fnSetsBentUptoRow : OpenClaim := { program := "ytkaoiaolbhklnaa", sum := "0a9df12d09ca3b5ae912802d5c72489819ab4e8ccf99168e02eabe706682af3e", func := "loop.example/g00467/laws.FnSetsBent", spec := "fnSetsBent", apart := false, narrowed := true }
def FnSetsBentUptoSaid : Prop := fnSetsBentUptoRow.holds Try.pinned (OpenSpec.upto fnSetsBentSpec)

end Rows
end Go.Proofs.Ytkaoiaolbhklnaa
