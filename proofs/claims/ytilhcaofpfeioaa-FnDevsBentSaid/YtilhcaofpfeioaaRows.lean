/-
  No cell of these rows narrows 'for every input' (looked for: loops, veiled, ifaces, maps, wideKeys, modest, calm, conditions, laid).
  DERIVED. THE GIVEN ROWS OF THIS SEAT. 9 by the template 'for every input the law returns true; each argument reads behind the call as it read before'; 0 by the template 'total and deterministic' (their statements: YtilhcaofpfeioaaTotals.lean).
  GIVEN WITH THE SEED: the statements are not yours to turn. If you find one false, say at which input.
  Laid BY PROGRAM, IN A SANDBOX (cutbox-rows.mjs): the forced cells as the released guide's own fill.sh prints them over the translation bb79e7b21b93a6d6… (all of the seat's roots in one cut). By AI agents, Wed Nov 11 2026. No macro, syntax, notation, axiom, sorry.
-/
import Derived.Test.YtilhcaofpfeioaaChecked
import GoSem.Claim
import GoSem.ClaimJoined
import GoSem.ClaimMapViews
import Derived.JoinedTies
import Derived.KernelRfl
namespace Go.Proofs.Ytilhcaofpfeioaa
/- THE CELL 'sum', in the pinned program and in every row, IS THE sha256 OF THE DUMP (.gsa) THAT YtilhcaofpfeioaaProg.lean LOADS. Nothing in Lean hashes anything: it is a label: what it is worth is what the hold of that sum in a sandbox is worth. -/
noncomputable def Try.pinned : Pinned := { name := "ytilhcaofpfeioaa", sum := "bb79e7b21b93a6d63ac52d20c85636e10e6e082807f4faae4dffdc69fb812b77", checked := Try.checked }
namespace Rows
def none {H : Type} : Left H := { results := [], args := [] }

/-- 'laws.FnExactDevNew': WHATEVER THE INPUT: true; the input reads as it did. -/
def fnExactDevNewSpec : ChangeSpec := { name := "fnExactDevNew", fn := fun _ => fun
  | [d] => { results := [.lit (.bool true)], args := [d] }
  | _ => none }
def fnExactDevNewRow : OpenClaim := { program := "ytilhcaofpfeioaa", sum := "bb79e7b21b93a6d63ac52d20c85636e10e6e082807f4faae4dffdc69fb812b77", func := "loop.example/g00467/laws.FnExactDevNew", spec := "fnExactDevNew", apart := false }
def FnExactDevNewSaid : Prop := fnExactDevNewRow.holds Try.pinned (OpenSpec.ofChange fnExactDevNewSpec)

/-- ITS FALSE NEIGHBOUR: 'it returns false'. Refute it at one input. -/
def fnExactDevNewWrong : ChangeSpec := { name := "fnExactDevNew", fn := fun _ => fun
  | [d] => { results := [.lit (.bool false)], args := [d] }
  | _ => none }
def FnExactDevNewWrongFalsely : Prop := fnExactDevNewRow.holds Try.pinned (OpenSpec.ofChange fnExactDevNewWrong)

/-- 'laws.FnExactDevOk': WHATEVER THE INPUT: true; the input reads as it did. -/
def fnExactDevOkSpec : ChangeSpec := { name := "fnExactDevOk", fn := fun _ => fun
  | [d] => { results := [.lit (.bool true)], args := [d] }
  | _ => none }
def fnExactDevOkRow : OpenClaim := { program := "ytilhcaofpfeioaa", sum := "bb79e7b21b93a6d63ac52d20c85636e10e6e082807f4faae4dffdc69fb812b77", func := "loop.example/g00467/laws.FnExactDevOk", spec := "fnExactDevOk", apart := false }
def FnExactDevOkSaid : Prop := fnExactDevOkRow.holds Try.pinned (OpenSpec.ofChange fnExactDevOkSpec)

/-- ITS FALSE NEIGHBOUR: 'it returns false'. Refute it at one input. -/
def fnExactDevOkWrong : ChangeSpec := { name := "fnExactDevOk", fn := fun _ => fun
  | [d] => { results := [.lit (.bool false)], args := [d] }
  | _ => none }
def FnExactDevOkWrongFalsely : Prop := fnExactDevOkRow.holds Try.pinned (OpenSpec.ofChange fnExactDevOkWrong)

/-- 'laws.FnExactReadSec': WHATEVER THE INPUT: true; the input reads as it did. -/
def fnExactReadSecSpec : ChangeSpec := { name := "fnExactReadSec", fn := fun _ => fun
  | [d1, d2] => { results := [.lit (.bool true)], args := [d1, d2] }
  | _ => none }
def fnExactReadSecRow : OpenClaim := { program := "ytilhcaofpfeioaa", sum := "bb79e7b21b93a6d63ac52d20c85636e10e6e082807f4faae4dffdc69fb812b77", func := "loop.example/g00467/laws.FnExactReadSec", spec := "fnExactReadSec", apart := false }
def FnExactReadSecSaid : Prop := fnExactReadSecRow.holds Try.pinned (OpenSpec.ofChange fnExactReadSecSpec)

/-- ITS FALSE NEIGHBOUR: 'it returns false'. Refute it at one input. -/
def fnExactReadSecWrong : ChangeSpec := { name := "fnExactReadSec", fn := fun _ => fun
  | [d1, d2] => { results := [.lit (.bool false)], args := [d1, d2] }
  | _ => none }
def FnExactReadSecWrongFalsely : Prop := fnExactReadSecRow.holds Try.pinned (OpenSpec.ofChange fnExactReadSecWrong)

/-- 'laws.FnExactWriteSec': WHATEVER THE INPUT: true; the input reads as it did. -/
def fnExactWriteSecSpec : ChangeSpec := { name := "fnExactWriteSec", fn := fun _ => fun
  | [d1, d2, d3] => { results := [.lit (.bool true)], args := [d1, d2, d3] }
  | _ => none }
def fnExactWriteSecRow : OpenClaim := { program := "ytilhcaofpfeioaa", sum := "bb79e7b21b93a6d63ac52d20c85636e10e6e082807f4faae4dffdc69fb812b77", func := "loop.example/g00467/laws.FnExactWriteSec", spec := "fnExactWriteSec", apart := false }
def FnExactWriteSecSaid : Prop := fnExactWriteSecRow.holds Try.pinned (OpenSpec.ofChange fnExactWriteSecSpec)

/-- ITS FALSE NEIGHBOUR: 'it returns false'. Refute it at one input. -/
def fnExactWriteSecWrong : ChangeSpec := { name := "fnExactWriteSec", fn := fun _ => fun
  | [d1, d2, d3] => { results := [.lit (.bool false)], args := [d1, d2, d3] }
  | _ => none }
def FnExactWriteSecWrongFalsely : Prop := fnExactWriteSecRow.holds Try.pinned (OpenSpec.ofChange fnExactWriteSecWrong)

/-- 'laws.FnExactFlushDev': WHATEVER THE INPUT: true; the input reads as it did. -/
def fnExactFlushDevSpec : ChangeSpec := { name := "fnExactFlushDev", fn := fun _ => fun
  | [d] => { results := [.lit (.bool true)], args := [d] }
  | _ => none }
def fnExactFlushDevRow : OpenClaim := { program := "ytilhcaofpfeioaa", sum := "bb79e7b21b93a6d63ac52d20c85636e10e6e082807f4faae4dffdc69fb812b77", func := "loop.example/g00467/laws.FnExactFlushDev", spec := "fnExactFlushDev", apart := false }
def FnExactFlushDevSaid : Prop := fnExactFlushDevRow.holds Try.pinned (OpenSpec.ofChange fnExactFlushDevSpec)

/-- ITS FALSE NEIGHBOUR: 'it returns false'. Refute it at one input. -/
def fnExactFlushDevWrong : ChangeSpec := { name := "fnExactFlushDev", fn := fun _ => fun
  | [d] => { results := [.lit (.bool false)], args := [d] }
  | _ => none }
def FnExactFlushDevWrongFalsely : Prop := fnExactFlushDevRow.holds Try.pinned (OpenSpec.ofChange fnExactFlushDevWrong)

/-- 'laws.FnExactFallDev': WHATEVER THE INPUT: true; the input reads as it did. -/
def fnExactFallDevSpec : ChangeSpec := { name := "fnExactFallDev", fn := fun _ => fun
  | [d1, d2] => { results := [.lit (.bool true)], args := [d1, d2] }
  | _ => none }
def fnExactFallDevRow : OpenClaim := { program := "ytilhcaofpfeioaa", sum := "bb79e7b21b93a6d63ac52d20c85636e10e6e082807f4faae4dffdc69fb812b77", func := "loop.example/g00467/laws.FnExactFallDev", spec := "fnExactFallDev", apart := false }
def FnExactFallDevSaid : Prop := fnExactFallDevRow.holds Try.pinned (OpenSpec.ofChange fnExactFallDevSpec)

/-- ITS FALSE NEIGHBOUR: 'it returns false'. Refute it at one input. -/
def fnExactFallDevWrong : ChangeSpec := { name := "fnExactFallDev", fn := fun _ => fun
  | [d1, d2] => { results := [.lit (.bool false)], args := [d1, d2] }
  | _ => none }
def FnExactFallDevWrongFalsely : Prop := fnExactFallDevRow.holds Try.pinned (OpenSpec.ofChange fnExactFallDevWrong)

/-- 'laws.FnDevs': WHATEVER THE INPUT: true; the input reads as it did. -/
def fnDevsSpec : ChangeSpec := { name := "fnDevs", fn := fun _ => fun
  | [d] => { results := [.lit (.bool true)], args := [d] }
  | _ => none }
def fnDevsRow : OpenClaim := { program := "ytilhcaofpfeioaa", sum := "bb79e7b21b93a6d63ac52d20c85636e10e6e082807f4faae4dffdc69fb812b77", func := "loop.example/g00467/laws.FnDevs", spec := "fnDevs", apart := false }
def FnDevsSaid : Prop := fnDevsRow.holds Try.pinned (OpenSpec.ofChange fnDevsSpec)

/-- ITS FALSE NEIGHBOUR: 'it returns false'. Refute it at one input. -/
def fnDevsWrong : ChangeSpec := { name := "fnDevs", fn := fun _ => fun
  | [d] => { results := [.lit (.bool false)], args := [d] }
  | _ => none }
def FnDevsWrongFalsely : Prop := fnDevsRow.holds Try.pinned (OpenSpec.ofChange fnDevsWrong)

/-- 'laws.FnFalls': WHATEVER THE INPUT: true; the input reads as it did. -/
def fnFallsSpec : ChangeSpec := { name := "fnFalls", fn := fun _ => fun
  | [d] => { results := [.lit (.bool true)], args := [d] }
  | _ => none }
def fnFallsRow : OpenClaim := { program := "ytilhcaofpfeioaa", sum := "bb79e7b21b93a6d63ac52d20c85636e10e6e082807f4faae4dffdc69fb812b77", func := "loop.example/g00467/laws.FnFalls", spec := "fnFalls", apart := false }
def FnFallsSaid : Prop := fnFallsRow.holds Try.pinned (OpenSpec.ofChange fnFallsSpec)

/-- ITS FALSE NEIGHBOUR: 'it returns false'. Refute it at one input. -/
def fnFallsWrong : ChangeSpec := { name := "fnFalls", fn := fun _ => fun
  | [d] => { results := [.lit (.bool false)], args := [d] }
  | _ => none }
def FnFallsWrongFalsely : Prop := fnFallsRow.holds Try.pinned (OpenSpec.ofChange fnFallsWrong)

/-- 'laws.FnDevsBent': WHATEVER THE INPUT: true; the input reads as it did. -/
def fnDevsBentSpec : ChangeSpec := { name := "fnDevsBent", fn := fun _ => fun
  | [d] => { results := [.lit (.bool true)], args := [d] }
  | _ => none }
def fnDevsBentRow : OpenClaim := { program := "ytilhcaofpfeioaa", sum := "bb79e7b21b93a6d63ac52d20c85636e10e6e082807f4faae4dffdc69fb812b77", func := "loop.example/g00467/laws.FnDevsBent", spec := "fnDevsBent", apart := false }
def FnDevsBentSaid : Prop := fnDevsBentRow.holds Try.pinned (OpenSpec.ofChange fnDevsBentSpec)

/-- ITS FALSE NEIGHBOUR: 'it returns false'. Refute it at one input. -/
def fnDevsBentWrong : ChangeSpec := { name := "fnDevsBent", fn := fun _ => fun
  | [d] => { results := [.lit (.bool false)], args := [d] }
  | _ => none }
def FnDevsBentWrongFalsely : Prop := fnDevsBentRow.holds Try.pinned (OpenSpec.ofChange fnDevsBentWrong)

/- THE SECOND FORM. 'bulk': how many values and letters a reading holds, each counted each time it is reached (what is shared counts as often as it is met; a slice's spare places count too). A statement '..UptoSaid' is the law's where the arguments, and the package variables that the reading takes, are together of bulk at most 1048576: NARROWER than '..Said'. Prove '..Said' where nothing that the law and all that it calls make is longer than what came in: it says more and counts as full. Else prove '..UptoSaid'. A law counts once. -/
mutual
def uptoBulk {H : Type} : DataW H → Nat
  | .lit (.string bytes) => bytes.length + 1
  | .lit _ => 1
  | .nil => 1
  | .ptr d => uptoBulk d + 1
  | .slice elems spare => uptoBulkAll elems + uptoBulkAll spare + 1
  | .agg parts => uptoBulkAll parts + 1
  | .iface _ d => uptoBulk d + 1
  | .map entries => uptoBulkEntries entries + 1
  | .held _ => 1
def uptoBulkAll {H : Type} : List (DataW H) → Nat
  | [] => 0
  | d :: r => uptoBulk d + uptoBulkAll r
def uptoBulkEntries {H : Type} : List (Lit × DataW H) → Nat
  | [] => 0
  | x :: r => uptoBulkEntry x + uptoBulkEntries r
def uptoBulkEntry {H : Type} : Lit × DataW H → Nat
  | (.string bytes, d) => bytes.length + uptoBulk d + 1
  | (_, d) => uptoBulk d + 1
 end
def uptoSmall : (H : Type) → List (DataW H) → Bool := fun _ ds => decide (uptoBulkAll ds ≤ 1048576)
def OpenSpec.upto (s : _root_.Go.ChangeSpec) : _root_.Go.OpenSpec := { _root_.Go.OpenSpec.ofChange s with cond := some uptoSmall }

/-- 'laws.FnExactDevNew', WHERE WHAT IT READS IS OF BULK AT MOST 1048576: true; the input reads as it did. -/
def fnExactDevNewUptoRow : OpenClaim := { program := "ytilhcaofpfeioaa", sum := "bb79e7b21b93a6d63ac52d20c85636e10e6e082807f4faae4dffdc69fb812b77", func := "loop.example/g00467/laws.FnExactDevNew", spec := "fnExactDevNew", apart := false, narrowed := true }
def FnExactDevNewUptoSaid : Prop := fnExactDevNewUptoRow.holds Try.pinned (OpenSpec.upto fnExactDevNewSpec)

/-- 'laws.FnExactDevOk', WHERE WHAT IT READS IS OF BULK AT MOST 1048576: true; the input reads as it did. -/
def fnExactDevOkUptoRow : OpenClaim := { program := "ytilhcaofpfeioaa", sum := "bb79e7b21b93a6d63ac52d20c85636e10e6e082807f4faae4dffdc69fb812b77", func := "loop.example/g00467/laws.FnExactDevOk", spec := "fnExactDevOk", apart := false, narrowed := true }
def FnExactDevOkUptoSaid : Prop := fnExactDevOkUptoRow.holds Try.pinned (OpenSpec.upto fnExactDevOkSpec)

/-- 'laws.FnExactReadSec', WHERE WHAT IT READS IS OF BULK AT MOST 1048576: true; the input reads as it did. -/
def fnExactReadSecUptoRow : OpenClaim := { program := "ytilhcaofpfeioaa", sum := "bb79e7b21b93a6d63ac52d20c85636e10e6e082807f4faae4dffdc69fb812b77", func := "loop.example/g00467/laws.FnExactReadSec", spec := "fnExactReadSec", apart := false, narrowed := true }
def FnExactReadSecUptoSaid : Prop := fnExactReadSecUptoRow.holds Try.pinned (OpenSpec.upto fnExactReadSecSpec)

/-- 'laws.FnExactWriteSec', WHERE WHAT IT READS IS OF BULK AT MOST 1048576: true; the input reads as it did. -/
def fnExactWriteSecUptoRow : OpenClaim := { program := "ytilhcaofpfeioaa", sum := "bb79e7b21b93a6d63ac52d20c85636e10e6e082807f4faae4dffdc69fb812b77", func := "loop.example/g00467/laws.FnExactWriteSec", spec := "fnExactWriteSec", apart := false, narrowed := true }
def FnExactWriteSecUptoSaid : Prop := fnExactWriteSecUptoRow.holds Try.pinned (OpenSpec.upto fnExactWriteSecSpec)

/-- 'laws.FnExactFlushDev', WHERE WHAT IT READS IS OF BULK AT MOST 1048576: true; the input reads as it did. -/
def fnExactFlushDevUptoRow : OpenClaim := { program := "ytilhcaofpfeioaa", sum := "bb79e7b21b93a6d63ac52d20c85636e10e6e082807f4faae4dffdc69fb812b77", func := "loop.example/g00467/laws.FnExactFlushDev", spec := "fnExactFlushDev", apart := false, narrowed := true }
def FnExactFlushDevUptoSaid : Prop := fnExactFlushDevUptoRow.holds Try.pinned (OpenSpec.upto fnExactFlushDevSpec)

/-- 'laws.FnExactFallDev', WHERE WHAT IT READS IS OF BULK AT MOST 1048576: true; the input reads as it did. -/
def fnExactFallDevUptoRow : OpenClaim := { program := "ytilhcaofpfeioaa", sum := "bb79e7b21b93a6d63ac52d20c85636e10e6e082807f4faae4dffdc69fb812b77", func := "loop.example/g00467/laws.FnExactFallDev", spec := "fnExactFallDev", apart := false, narrowed := true }
def FnExactFallDevUptoSaid : Prop := fnExactFallDevUptoRow.holds Try.pinned (OpenSpec.upto fnExactFallDevSpec)

/-- 'laws.FnDevs', WHERE WHAT IT READS IS OF BULK AT MOST 1048576: true; the input reads as it did. -/
def fnDevsUptoRow : OpenClaim := { program := "ytilhcaofpfeioaa", sum := "bb79e7b21b93a6d63ac52d20c85636e10e6e082807f4faae4dffdc69fb812b77", func := "loop.example/g00467/laws.FnDevs", spec := "fnDevs", apart := false, narrowed := true }
def FnDevsUptoSaid : Prop := fnDevsUptoRow.holds Try.pinned (OpenSpec.upto fnDevsSpec)

/-- 'laws.FnFalls', WHERE WHAT IT READS IS OF BULK AT MOST 1048576: true; the input reads as it did. -/
def fnFallsUptoRow : OpenClaim := { program := "ytilhcaofpfeioaa", sum := "bb79e7b21b93a6d63ac52d20c85636e10e6e082807f4faae4dffdc69fb812b77", func := "loop.example/g00467/laws.FnFalls", spec := "fnFalls", apart := false, narrowed := true }
def FnFallsUptoSaid : Prop := fnFallsUptoRow.holds Try.pinned (OpenSpec.upto fnFallsSpec)

/-- 'laws.FnDevsBent', WHERE WHAT IT READS IS OF BULK AT MOST 1048576: true; the input reads as it did. -/
def fnDevsBentUptoRow : OpenClaim := { program := "ytilhcaofpfeioaa", sum := "bb79e7b21b93a6d63ac52d20c85636e10e6e082807f4faae4dffdc69fb812b77", func := "loop.example/g00467/laws.FnDevsBent", spec := "fnDevsBent", apart := false, narrowed := true }
def FnDevsBentUptoSaid : Prop := fnDevsBentUptoRow.holds Try.pinned (OpenSpec.upto fnDevsBentSpec)

end Rows
end Go.Proofs.Ytilhcaofpfeioaa
