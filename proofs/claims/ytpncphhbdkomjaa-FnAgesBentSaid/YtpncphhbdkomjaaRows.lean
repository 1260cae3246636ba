/-
  No cell of these rows narrows 'for every input' (looked for: loops, veiled, ifaces, maps, wideKeys, modest, calm, conditions, laid).
  DERIVED. THE GIVEN ROWS OF THIS SEAT. 10 by the template 'for every input the law returns true; each argument reads behind the call as it read before'; 0 by the template 'total and deterministic' (their statements: YtpncphhbdkomjaaTotals.lean).
  GIVEN WITH THE SEED: the statements are not yours to turn. If you find one false, say at which input.
  Laid BY PROGRAM, IN A SANDBOX (cutbox-rows.mjs): the forced cells as the released guide's own fill.sh prints them over the translation 99235a2cbc9ef6f3… (all of the seat's roots in one cut). By AI agents, Wed Nov 11 2026. No macro, syntax, notation, axiom, sorry.
-/
import Derived.Test.YtpncphhbdkomjaaChecked
import GoSem.Claim
import GoSem.ClaimJoined
import GoSem.ClaimMapViews
import Derived.JoinedTies
import Derived.KernelRfl
namespace Go.Proofs.Ytpncphhbdkomjaa
/- THE CELL 'sum', in the pinned program and in every row, IS THE sha256 OF THE DUMP (.gsa) THAT YtpncphhbdkomjaaProg.lean LOADS. Nothing in Lean hashes anything: it is a label: what it is worth is what the hold of that sum in a sandbox is worth. -/
noncomputable def Try.pinned : Pinned := { name := "ytpncphhbdkomjaa", sum := "99235a2cbc9ef6f37d481734edc5e60a4c30eef34b6bc547f7e1f3ded653983a", checked := Try.checked }
namespace Rows
def none {H : Type} : Left H := { results := [], args := [] }

/-- 'laws.FnExactAgeAt': WHATEVER THE INPUT: true; the input reads as it did. -/
def fnExactAgeAtSpec : ChangeSpec := { name := "fnExactAgeAt", fn := fun _ => fun
  | [d1, d2] => { results := [.lit (.bool true)], args := [d1, d2] }
  | _ => none }
def fnExactAgeAtRow : OpenClaim := { program := "ytpncphhbdkomjaa", sum := "99235a2cbc9ef6f37d481734edc5e60a4c30eef34b6bc547f7e1f3ded653983a", func := "loop.example/g00467/laws.FnExactAgeAt", spec := "fnExactAgeAt", unfollowed := true, recurses := true, apart := false }
def FnExactAgeAtSaid : Prop := fnExactAgeAtRow.holds Try.pinned (OpenSpec.ofChange fnExactAgeAtSpec)

/-- ITS FALSE NEIGHBOUR: 'it returns false'. Refute it at one input. -/
def fnExactAgeAtWrong : ChangeSpec := { name := "fnExactAgeAt", fn := fun _ => fun
  | [d1, d2] => { results := [.lit (.bool false)], args := [d1, d2] }
  | _ => none }
def FnExactAgeAtWrongFalsely : Prop := fnExactAgeAtRow.holds Try.pinned (OpenSpec.ofChange fnExactAgeAtWrong)

/-- 'laws.FnExactAgesOk': WHATEVER THE INPUT: true; the input reads as it did. -/
def fnExactAgesOkSpec : ChangeSpec := { name := "fnExactAgesOk", fn := fun _ => fun
  | [d] => { results := [.lit (.bool true)], args := [d] }
  | _ => none }
def fnExactAgesOkRow : OpenClaim := { program := "ytpncphhbdkomjaa", sum := "99235a2cbc9ef6f37d481734edc5e60a4c30eef34b6bc547f7e1f3ded653983a", func := "loop.example/g00467/laws.FnExactAgesOk", spec := "fnExactAgesOk", unfollowed := true, recurses := true, apart := false }
def FnExactAgesOkSaid : Prop := fnExactAgesOkRow.holds Try.pinned (OpenSpec.ofChange fnExactAgesOkSpec)

/-- ITS FALSE NEIGHBOUR: 'it returns false'. Refute it at one input. -/
def fnExactAgesOkWrong : ChangeSpec := { name := "fnExactAgesOk", fn := fun _ => fun
  | [d] => { results := [.lit (.bool false)], args := [d] }
  | _ => none }
def FnExactAgesOkWrongFalsely : Prop := fnExactAgesOkRow.holds Try.pinned (OpenSpec.ofChange fnExactAgesOkWrong)

/-- 'laws.FnExactKidsOf': WHATEVER THE INPUT: true; the input reads as it did. -/
def fnExactKidsOfSpec : ChangeSpec := { name := "fnExactKidsOf", fn := fun _ => fun
  | [d1, d2] => { results := [.lit (.bool true)], args := [d1, d2] }
  | _ => none }
def fnExactKidsOfRow : OpenClaim := { program := "ytpncphhbdkomjaa", sum := "99235a2cbc9ef6f37d481734edc5e60a4c30eef34b6bc547f7e1f3ded653983a", func := "loop.example/g00467/laws.FnExactKidsOf", spec := "fnExactKidsOf", apart := false }
def FnExactKidsOfSaid : Prop := fnExactKidsOfRow.holds Try.pinned (OpenSpec.ofChange fnExactKidsOfSpec)

/-- ITS FALSE NEIGHBOUR: 'it returns false'. Refute it at one input. -/
def fnExactKidsOfWrong : ChangeSpec := { name := "fnExactKidsOf", fn := fun _ => fun
  | [d1, d2] => { results := [.lit (.bool false)], args := [d1, d2] }
  | _ => none }
def FnExactKidsOfWrongFalsely : Prop := fnExactKidsOfRow.holds Try.pinned (OpenSpec.ofChange fnExactKidsOfWrong)

/-- 'laws.FnExactIsFrom': WHATEVER THE INPUT: true; the input reads as it did. -/
def fnExactIsFromSpec : ChangeSpec := { name := "fnExactIsFrom", fn := fun _ => fun
  | [d1, d2, d3] => { results := [.lit (.bool true)], args := [d1, d2, d3] }
  | _ => none }
def fnExactIsFromRow : OpenClaim := { program := "ytpncphhbdkomjaa", sum := "99235a2cbc9ef6f37d481734edc5e60a4c30eef34b6bc547f7e1f3ded653983a", func := "loop.example/g00467/laws.FnExactIsFrom", spec := "fnExactIsFrom", unfollowed := true, recurses := true, apart := false }
def FnExactIsFromSaid : Prop := fnExactIsFromRow.holds Try.pinned (OpenSpec.ofChange fnExactIsFromSpec)

/-- ITS FALSE NEIGHBOUR: 'it returns false'. Refute it at one input. -/
def fnExactIsFromWrong : ChangeSpec := { name := "fnExactIsFrom", fn := fun _ => fun
  | [d1, d2, d3] => { results := [.lit (.bool false)], args := [d1, d2, d3] }
  | _ => none }
def FnExactIsFromWrongFalsely : Prop := fnExactIsFromRow.holds Try.pinned (OpenSpec.ofChange fnExactIsFromWrong)

/-- 'laws.FnExactPathOf': WHATEVER THE INPUT: true; the input reads as it did. -/
def fnExactPathOfSpec : ChangeSpec := { name := "fnExactPathOf", fn := fun _ => fun
  | [d1, d2] => { results := [.lit (.bool true)], args := [d1, d2] }
  | _ => none }
def fnExactPathOfRow : OpenClaim := { program := "ytpncphhbdkomjaa", sum := "99235a2cbc9ef6f37d481734edc5e60a4c30eef34b6bc547f7e1f3ded653983a", func := "loop.example/g00467/laws.FnExactPathOf", spec := "fnExactPathOf", unfollowed := true, recurses := true, apart := false }
def FnExactPathOfSaid : Prop := fnExactPathOfRow.holds Try.pinned (OpenSpec.ofChange fnExactPathOfSpec)

/-- ITS FALSE NEIGHBOUR: 'it returns false'. Refute it at one input. -/
def fnExactPathOfWrong : ChangeSpec := { name := "fnExactPathOf", fn := fun _ => fun
  | [d1, d2] => { results := [.lit (.bool false)], args := [d1, d2] }
  | _ => none }
def FnExactPathOfWrongFalsely : Prop := fnExactPathOfRow.holds Try.pinned (OpenSpec.ofChange fnExactPathOfWrong)

/-- 'laws.FnExactCutAge': WHATEVER THE INPUT: true; the input reads as it did. -/
def fnExactCutAgeSpec : ChangeSpec := { name := "fnExactCutAge", fn := fun _ => fun
  | [d1, d2] => { results := [.lit (.bool true)], args := [d1, d2] }
  | _ => none }
def fnExactCutAgeRow : OpenClaim := { program := "ytpncphhbdkomjaa", sum := "99235a2cbc9ef6f37d481734edc5e60a4c30eef34b6bc547f7e1f3ded653983a", func := "loop.example/g00467/laws.FnExactCutAge", spec := "fnExactCutAge", unfollowed := true, recurses := true, apart := false }
def FnExactCutAgeSaid : Prop := fnExactCutAgeRow.holds Try.pinned (OpenSpec.ofChange fnExactCutAgeSpec)

/-- ITS FALSE NEIGHBOUR: 'it returns false'. Refute it at one input. -/
def fnExactCutAgeWrong : ChangeSpec := { name := "fnExactCutAge", fn := fun _ => fun
  | [d1, d2] => { results := [.lit (.bool false)], args := [d1, d2] }
  | _ => none }
def FnExactCutAgeWrongFalsely : Prop := fnExactCutAgeRow.holds Try.pinned (OpenSpec.ofChange fnExactCutAgeWrong)

/-- 'laws.FnAges': WHATEVER THE INPUT: true; the input reads as it did. -/
def fnAgesSpec : ChangeSpec := { name := "fnAges", fn := fun _ => fun
  | [d] => { results := [.lit (.bool true)], args := [d] }
  | _ => none }
def fnAgesRow : OpenClaim := { program := "ytpncphhbdkomjaa", sum := "99235a2cbc9ef6f37d481734edc5e60a4c30eef34b6bc547f7e1f3ded653983a", func := "loop.example/g00467/laws.FnAges", spec := "fnAges", unfollowed := true, recurses := true, apart := false }
def FnAgesSaid : Prop := fnAgesRow.holds Try.pinned (OpenSpec.ofChange fnAgesSpec)

/-- ITS FALSE NEIGHBOUR: 'it returns false'. Refute it at one input. -/
def fnAgesWrong : ChangeSpec := { name := "fnAges", fn := fun _ => fun
  | [d] => { results := [.lit (.bool false)], args := [d] }
  | _ => none }
def FnAgesWrongFalsely : Prop := fnAgesRow.holds Try.pinned (OpenSpec.ofChange fnAgesWrong)

/-- 'laws.FnExactNewAge': WHATEVER THE INPUT: true; the input reads as it did. -/
def fnExactNewAgeSpec : ChangeSpec := { name := "fnExactNewAge", fn := fun _ => fun
  | [d1, d2, d3] => { results := [.lit (.bool true)], args := [d1, d2, d3] }
  | _ => none }
def fnExactNewAgeRow : OpenClaim := { program := "ytpncphhbdkomjaa", sum := "99235a2cbc9ef6f37d481734edc5e60a4c30eef34b6bc547f7e1f3ded653983a", func := "loop.example/g00467/laws.FnExactNewAge", spec := "fnExactNewAge", inPlace := ["slices.overlaps[loop.example/g00467/impl.Age]"], unfollowed := true, recurses := true, apart := false }
def FnExactNewAgeSaid : Prop := fnExactNewAgeRow.holds Try.pinned (OpenSpec.ofChange fnExactNewAgeSpec)

/-- ITS FALSE NEIGHBOUR: 'it returns false'. Refute it at one input. -/
def fnExactNewAgeWrong : ChangeSpec := { name := "fnExactNewAge", fn := fun _ => fun
  | [d1, d2, d3] => { results := [.lit (.bool false)], args := [d1, d2, d3] }
  | _ => none }
def FnExactNewAgeWrongFalsely : Prop := fnExactNewAgeRow.holds Try.pinned (OpenSpec.ofChange fnExactNewAgeWrong)

/-- 'laws.FnCuts': WHATEVER THE INPUT: true; the input reads as it did. -/
def fnCutsSpec : ChangeSpec := { name := "fnCuts", fn := fun _ => fun
  | [d] => { results := [.lit (.bool true)], args := [d] }
  | _ => none }
def fnCutsRow : OpenClaim := { program := "ytpncphhbdkomjaa", sum := "99235a2cbc9ef6f37d481734edc5e60a4c30eef34b6bc547f7e1f3ded653983a", func := "loop.example/g00467/laws.FnCuts", spec := "fnCuts", inPlace := ["slices.overlaps[loop.example/g00467/impl.Age]"], unfollowed := true, recurses := true, apart := false }
def FnCutsSaid : Prop := fnCutsRow.holds Try.pinned (OpenSpec.ofChange fnCutsSpec)

/-- ITS FALSE NEIGHBOUR: 'it returns false'. Refute it at one input. -/
def fnCutsWrong : ChangeSpec := { name := "fnCuts", fn := fun _ => fun
  | [d] => { results := [.lit (.bool false)], args := [d] }
  | _ => none }
def FnCutsWrongFalsely : Prop := fnCutsRow.holds Try.pinned (OpenSpec.ofChange fnCutsWrong)

/-- 'laws.FnAgesBent': WHATEVER THE INPUT: true; the input reads as it did. -/
def fnAgesBentSpec : ChangeSpec := { name := "fnAgesBent", fn := fun _ => fun
  | [d] => { results := [.lit (.bool true)], args := [d] }
  | _ => none }
def fnAgesBentRow : OpenClaim := { program := "ytpncphhbdkomjaa", sum := "99235a2cbc9ef6f37d481734edc5e60a4c30eef34b6bc547f7e1f3ded653983a", func := "loop.example/g00467/laws.FnAgesBent", spec := "fnAgesBent", inPlace := ["slices.overlaps[loop.example/g00467/impl.Age]"], unfollowed := true, recurses := true, apart := false }
def FnAgesBentSaid : Prop := fnAgesBentRow.holds Try.pinned (OpenSpec.ofChange fnAgesBentSpec)

/-- ITS FALSE NEIGHBOUR: 'it returns false'. Refute it at one input. -/
def fnAgesBentWrong : ChangeSpec := { name := "fnAgesBent", fn := fun _ => fun
  | [d] => { results := [.lit (.bool false)], args := [d] }
  | _ => none }
def FnAgesBentWrongFalsely : Prop := fnAgesBentRow.holds Try.pinned (OpenSpec.ofChange fnAgesBentWrong)

/- THE SECOND FORM. 'bulk': how many values and letters a reading holds, each counted each time it is reached (what is shared counts as often as it is met; a slice's spare places count too). A statement '..UptoSaid' is the law's where the arguments, and the package variables that the reading takes, are together of bulk at most 1048576: NARROWER than '..Said'. Prove '..Said' where nothing that the law and all that it calls make is longer than what came in: it says more and counts as full. Else prove '..UptoSaid'. A law counts once. -/
mutual
def uptoBulk {H : Type} : DataW H → Nat
  | .lit (.string bytes) => bytes.length + 1
  | .lit _ => 1
  | .nil => 1
  | .ptr d => uptoBulk d + 1
  | .slice elems spare => uptoBulkAll elems + uptoBulkAll spare + 1
  | .agg parts => uptoBulkAll parts + 1
  | .iface _ d => uptoBulk d + 1
  | .map entries => uptoBulkEntries entries + 1
  | .held _ => 1
def uptoBulkAll {H : Type} : List (DataW H) → Nat
  | [] => 0
  | d :: r => uptoBulk d + uptoBulkAll r
def uptoBulkEntries {H : Type} : List (Lit × DataW H) → Nat
  | [] => 0
  | x :: r => uptoBulkEntry x + uptoBulkEntries r
def uptoBulkEntry {H : Type} : Lit × DataW H → Nat
  | (.string bytes, d) => bytes.length + uptoBulk d + 1
  | (_, d) => uptoBulk d + 1
 end
def uptoSmall : (H : Type) → List (DataW H) → Bool := fun _ ds => decide (uptoBulkAll ds ≤ 1048576)
def OpenSpec.upto (s : _root_.Go.ChangeSpec) : _root_.Go.OpenSpec := { _root_.Go.OpenSpec.ofChange s with cond := some uptoSmall }

/-- 'laws.FnExactAgeAt', WHERE WHAT IT READS IS OF BULK AT MOST 1048576: true; the input reads as it did. -/
def fnExactAgeAtUptoRow : OpenClaim := { program := "ytpncphhbdkomjaa", sum := "99235a2cbc9ef6f37d481734edc5e60a4c30eef34b6bc547f7e1f3ded653983a", func := "loop.example/g00467/laws.FnExactAgeAt", spec := "fnExactAgeAt", unfollowed := true, recurses := true, apart := false, narrowed := true }
def FnExactAgeAtUptoSaid : Prop := fnExactAgeAtUptoRow.holds Try.pinned (OpenSpec.upto fnExactAgeAtSpec)

/-- 'laws.FnExactAgesOk', WHERE WHAT IT READS IS OF BULK AT MOST 1048576: true; the input reads as it did. -/
def fnExactAgesOkUptoRow : OpenClaim := { program := "ytpncphhbdkomjaa", sum := "99235a2cbc9ef6f37d481734edc5e60a4c30eef34b6bc547f7e1f3ded653983a", func := "loop.example/g00467/laws.FnExactAgesOk", spec := "fnExactAgesOk", unfollowed := true, recurses := true, apart := false, narrowed := true }
def FnExactAgesOkUptoSaid : Prop := fnExactAgesOkUptoRow.holds Try.pinned (OpenSpec.upto fnExactAgesOkSpec)

/-- 'laws.FnExactKidsOf', WHERE WHAT IT READS IS OF BULK AT MOST 1048576: true; the input reads as it did. -/
def fnExactKidsOfUptoRow : OpenClaim := { program := "ytpncphhbdkomjaa", sum := "99235a2cbc9ef6f37d481734edc5e60a4c30eef34b6bc547f7e1f3ded653983a", func := "loop.example/g00467/laws.FnExactKidsOf", spec := "fnExactKidsOf", apart := false, narrowed := true }
def FnExactKidsOfUptoSaid : Prop := fnExactKidsOfUptoRow.holds Try.pinned (OpenSpec.upto fnExactKidsOfSpec)

/-- 'laws.FnExactIsFrom', WHERE WHAT IT READS IS OF BULK AT MOST 1048576: true; the input reads as it did. -/
def fnExactIsFromUptoRow : OpenClaim := { program := "ytpncphhbdkomjaa", sum := "99235a2cbc9ef6f37d481734edc5e60a4c30eef34b6bc547f7e1f3ded653983a", func := "loop.example/g00467/laws.FnExactIsFrom", spec := "fnExactIsFrom", unfollowed := true, recurses := true, apart := false, narrowed := true }
def FnExactIsFromUptoSaid : Prop := fnExactIsFromUptoRow.holds Try.pinned (OpenSpec.upto fnExactIsFromSpec)

/-- 'laws.FnExactPathOf', WHERE WHAT IT READS IS OF BULK AT MOST 1048576: true; the input reads as it did. -/
def fnExactPathOfUptoRow : OpenClaim := { program := "ytpncphhbdkomjaa", sum := "99235a2cbc9ef6f37d481734edc5e60a4c30eef34b6bc547f7e1f3ded653983a", func := "loop.example/g00467/laws.FnExactPathOf", spec := "fnExactPathOf", unfollowed := true, recurses := true, apart := false, narrowed := true }
def FnExactPathOfUptoSaid : Prop := fnExactPathOfUptoRow.holds Try.pinned (OpenSpec.upto fnExactPathOfSpec)

/-- 'laws.FnExactCutAge', WHERE WHAT IT READS IS OF BULK AT MOST 1048576: true; the input reads as it did. -/
def fnExactCutAgeUptoRow : OpenClaim := { program := "ytpncphhbdkomjaa", sum := "99235a2cbc9ef6f37d481734edc5e60a4c30eef34b6bc547f7e1f3ded653983a", func := "loop.example/g00467/laws.FnExactCutAge", spec := "fnExactCutAge", unfollowed := true, recurses := true, apart := false, narrowed := true }
def FnExactCutAgeUptoSaid : Prop := fnExactCutAgeUptoRow.holds Try.pinned (OpenSpec.upto fnExactCutAgeSpec)

/-- 'laws.FnAges', WHERE WHAT IT READS IS OF BULK AT MOST 1048576: true; the input reads as it did. -/
def fnAgesUptoRow : OpenClaim := { program := "ytpncphhbdkomjaa", sum := "99235a2cbc9ef6f37d481734edc5e60a4c30eef34b6bc547f7e1f3ded653983a", func := "loop.example/g00467/laws.FnAges", spec := "fnAges", unfollowed := true, recurses := true, apart := false, narrowed := true }
def FnAgesUptoSaid : Prop := fnAgesUptoRow.holds Try.pinned (OpenSpec.upto fnAgesSpec)

/-- 'laws.FnExactNewAge', WHERE WHAT IT READS IS OF BULK AT MOST 1048576: true; the input reads as it did. -/
def fnExactNewAgeUptoRow : OpenClaim := { program := "ytpncphhbdkomjaa", sum := "99235a2cbc9ef6f37d481734edc5e60a4c30eef34b6bc547f7e1f3ded653983a", func := "loop.example/g00467/laws.FnExactNewAge", spec := "fnExactNewAge", inPlace := ["slices.overlaps[loop.example/g00467/impl.Age]"], unfollowed := true, recurses := true, apart := false, narrowed := true }
def FnExactNewAgeUptoSaid : Prop := fnExactNewAgeUptoRow.holds Try.pinned (OpenSpec.upto fnExactNewAgeSpec)

/-- 'laws.FnCuts', WHERE WHAT IT READS IS OF BULK AT MOST 1048576: true; the input reads as it did. -/
def fnCutsUptoRow : OpenClaim := { program := "ytpncphhbdkomjaa", sum := "99235a2cbc9ef6f37d481734edc5e60a4c30eef34b6bc547f7e1f3ded653983a", func := "loop.example/g00467/laws.FnCuts", spec := "fnCuts", inPlace := ["slices.overlaps[loop.example/g00467/impl.Age]"], unfollowed := true, recurses := true, apart := false, narrowed := true }
def FnCutsUptoSaid : Prop := fnCutsUptoRow.holds Try.pinned (OpenSpec.upto fnCutsSpec)

/-- 'laws.FnAgesBent', WHERE WHAT IT READS IS OF BULK AT MOST 1048576: true; the input reads as it did. -/
def fnAgesBentUptoRow : OpenClaim := { program := "ytpncphhbdkomjaa", sum := "99235a2cbc9ef6f37d481734edc5e60a4c30eef34b6bc547f7e1f3ded653983a", func := "loop.example/g00467/laws.FnAgesBent", spec := "fnAgesBent", inPlace := ["slices.overlaps[loop.example/g00467/impl.Age]"], unfollowed := true, recurses := true, apart := false, narrowed := true }
def FnAgesBentUptoSaid : Prop := fnAgesBentUptoRow.holds Try.pinned (OpenSpec.upto fnAgesBentSpec)

end Rows
end Go.Proofs.Ytpncphhbdkomjaa
