/- The row of the law: whatever its arguments, it answers true, and each reads behind the call as it read before; no condition. -/
import Derived.Test.YtilhcaofpfeioaaRows
import Derived.Test.YtilhcaofpfeioaaMFnExactReadSecx0
import Derived.Test.YtilhcaofpfeioaaMFnExactReadSecx1
import Derived.Test.YtilhcaofpfeioaaMFnExactReadSecx2
import Derived.Test.YtilhcaofpfeioaaMFnExactReadSecx3
import Derived.Test.YtilhcaofpfeioaaMFnExactReadSecx4
import Derived.Test.YtilhcaofpfeioaaMFnExactReadSecx5
import Derived.Test.YtilhcaofpfeioaaMFnExactReadSecx6
import Derived.Test.YtilhcaofpfeioaaLFnExactReadSec
import Derived.Test.YtilhcaofpfeioaaPureFnExactReadSec
import Derived.Test.YtilhcaofpfeioaaOpens
import Derived.WalkKit
import Derived.ProofKit
import Derived.OpenShut
import Derived.ShutString
import Derived.ChangeOld
import Derived.Below
import Derived.SizedLaws
namespace Go.Proofs.Ytilhcaofpfeioaa.rowFnExactReadSec
open Go.ChangeShapes Go.WideShapes Go.ChangeAt Go.RowKit
open Go.ChangeMaps (open_string shut_string)
open Go.Proofs.YtilhcaofpfeioaaW.PrintWords Go.Proofs.Ytilhcaofpfeioaa.Op Go.Proofs.Ytilhcaofpfeioaa.PFnExactReadSec Go.Proofs.Ytilhcaofpfeioaa.Law
set_option linter.unusedVariables false
set_option linter.unusedSimpArgs false
theorem own : ownKnob Try.prog.godebug = none := by kernel_rfl
theorem laidOut : laidOutB Try.prog = true := by kernel_rfl
theorem opensElWr : Opens Try.prog 81 k81 (fun x => ((Lit.int .i64 x.f0).wf = true ∧ (x.f1.length ≤ 9223372036854775807 ∧ ∀ y0 ∈ x.f1, (Lit.int .u8 y0).wf = true))) := opens_mono (opens_iso (fun x : S81 => (x.f0, x.f1)) (fun y => ⟨y.1, y.2⟩) (fun _ => rfl) (opens_struct Try.underlying81 (by kernel_rfl) (opensL_cons rfl (opens_int Try.underlying3) (by kernel_rfl) (opensL_one rfl ((opens_slice 5 Try.underlying37 (opens_int Try.underlying5) (by kernel_rfl))) (by kernel_rfl))))) (fun _ h => h)
theorem opensDev : Opens Try.prog 32 (Kd.pair (Kd.slice 37 (Kd.slice 5 (Kd.int .u8))) (Kd.pair (Kd.slice 81 (k81)) (Kd.pair (Kd.int .i64) (Kd.bool)))) (fun x => (x.1.length ≤ 9223372036854775807 ∧ ∀ y0 ∈ x.1, (y0.length ≤ 9223372036854775807 ∧ ∀ y1 ∈ y0, (Lit.int .u8 y1).wf = true)) ∧ (x.2.1.length ≤ 9223372036854775807 ∧ ∀ y0 ∈ x.2.1, ((Lit.int .i64 y0.f0).wf = true ∧ (y0.f1.length ≤ 9223372036854775807 ∧ ∀ y1 ∈ y0.f1, (Lit.int .u8 y1).wf = true))) ∧ (Lit.int .i64 x.2.2.1).wf = true ∧ True) := opens_struct Try.underlying32 (by kernel_rfl) (opensL_cons rfl ((opens_slice 37 Try.underlying22 ((opens_slice 5 Try.underlying37 (opens_int Try.underlying5) (by kernel_rfl))) (by kernel_rfl))) (by kernel_rfl) (opensL_cons rfl ((opens_slice 81 Try.underlying30 (opensElWr) (by kernel_rfl))) (by kernel_rfl) (opensL_cons rfl (opens_int Try.underlying3) (by kernel_rfl) (opensL_one rfl (opens_bool Try.underlying4) (by kernel_rfl)))))
set_option maxRecDepth 100000 in
theorem lifted (os : Os) (started : os.Started) (H : Type) (enc : TypeId × Value → H) :
    ReturnsInHanded {} Try.checked os 5 .any (Rows.fnExactReadSecSpec.pre6 enc Try.prog Try.f5 Rows.fnExactReadSecRow.domain false) (Rows.fnExactReadSecSpec.post enc Try.prog Try.f5 false true false false) := by
  refine returnsInHanded_of_change_sized (C := Try.checked) own started (by kernel_rfl) Try.func5
    (ChangeSpec.witness6 (enc := enc) (C := Try.checked) false ⟨#[], #[.agg #[.slice none 0 0, .slice none 0 0, .int .i64 0, .bool false], .int .i64 0], []⟩ 8 (by kernel_rfl) (by kernel_rfl) (by kernel_rfl) (by kernel_rfl)) ?_
  intro W base args ds gs before hval0 hW hcnd hsz0 _
  have hval : ∀ (j : Nat) t v, Try.f5.params[j]? = some t → args[j]? = some v → Value.okWide Try.prog W .any base t v := hval0
  have hW' := hW
  obtain ⟨p, q, hA0, hV, rfl, hfz, hnd⟩ := hW
  have hA : DataW.TrodAll enc Try.prog W 0 (fun _ => true) true Try.f5.params.toList args.toList ds p := hA0
  rw [Try.params5] at hA hval
  obtain ⟨v0, vs0, d0, ds0, p0, q0, hargs, rfl, rfl, h0, r0⟩ := trodAll_cons hA
  obtain ⟨v1, vs1, d1, ds1, p1, q1, rfl, rfl, rfl, h1, r1⟩ := trodAll_cons r0
  obtain ⟨rfl, rfl, rfl⟩ := trodAll_nil r1
  obtain rfl : args = #[v0, v1] := by cases args; simp_all
  obtain ⟨rfl, rfl⟩ := trodVars_none hV
  have k0 := h0
  have lt0 : ∀ x ∈ p0, x.block < W.heap.size := by obtain ⟨m, hm⟩ := k0; exact DataW.trod_lt m _ _ _ hm
  obtain ⟨fuel0, hf0⟩ := h0
  obtain ⟨cs0, rfl, _⟩ := okWide_struct Try.underlying32 (hval 0 32 v0 rfl rfl)
  obtain ⟨x0, hK0, g0⟩ := opensDev hf0
  obtain ⟨l0_0, l0_1, a0_2, a0_3⟩ := x0
  obtain ⟨_, _, e0, ⟨A0_0, c0_0, rfl, hc0_0, hC0_0⟩, ⟨_, _, rfl, ⟨A0_1, c0_1, rfl, hc0_1, hC0_1⟩, ⟨_, _, rfl, rfl, rfl⟩⟩⟩ := hK0
  obtain rfl : cs0 = #[.slice A0_0 l0_0.length c0_0, .slice A0_1 l0_1.length c0_1, .int .i64 a0_2, .bool a0_3] := by apply Array.toList_inj.1; exact e0
  obtain ⟨a1, rfl, rfl, rfl, w1⟩ := open_int Try.underlying3 (hval 1 3 v1 rfl rfl) h1
  clear hA0 hval0 hsz0
  refine (laws_FnExactReadSec.calls _ _ _ _ _ _ _ _ _ W hC0_0 hc0_0 hC0_1 hc0_1 g0 w1).mono fun e W' ⟨he, bel0⟩ => ?_
  have bel : Below W.heap.size W W' := by first | exact bel0 | exact bel0.below
  subst he
  exact ⟨_, rfl, _, _, _, [], _, [], hW', trodAll_mk1 (shut_bool Try.underlying4 _), (trodAll_cons_mk (Below.trod laidOut (by kernel_rfl) (of_decide_eq_true (by kernel_rfl)) k0 bel lt0) (trodAll_cons_mk (shut_int Try.underlying3 w1) trodAll_mk0)), rfl, bel.frame _, fun h => by cases h⟩
theorem over : Rows.fnExactReadSecRow.holds Try.pinned (OpenSpec.ofChange Rows.fnExactReadSecSpec) :=
  OpenClaim.holds_of_wide 5 Try.f5 rfl rfl rfl rfl rfl rfl rfl ⟨rfl, rfl, rfl, rfl, rfl⟩ rfl rfl rfl rfl rfl (by kernel_rfl) Try.func5 (by kernel_rfl)
    (of_decide_eq_true (by kernel_rfl)) (by unfold Func.isWrapper; first | (rw [if_pos (by decide +kernel)]; kernel_rfl) | (rw [if_neg (by decide +kernel)]; exact ⟨rfl, rfl⟩))
    (fun os started H enc _ => lifted os started H enc)
theorem proved : Rows.FnExactReadSecSaid := over
#print axioms proved
end Go.Proofs.Ytilhcaofpfeioaa.rowFnExactReadSec
namespace Go.Proofs.Ytilhcaofpfeioaa
/-- The row, under a short name, for the claim. -/
theorem fnExactReadSec_holds : Rows.FnExactReadSecSaid := rowFnExactReadSec.proved
end Go.Proofs.Ytilhcaofpfeioaa
