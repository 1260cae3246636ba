/- The row of the law: whatever its arguments, it answers true, and each reads behind the call as it read before; no condition. -/
import Derived.Test.YtilhcaofpfeioaaRows
import Derived.Test.YtilhcaofpfeioaaMFnExactDevOkx0
import Derived.Test.YtilhcaofpfeioaaMFnExactDevOkx1
import Derived.Test.YtilhcaofpfeioaaMFnExactDevOkx2
import Derived.Test.YtilhcaofpfeioaaMFnExactDevOkx3
import Derived.Test.YtilhcaofpfeioaaMFnExactDevOkx4
import Derived.Test.YtilhcaofpfeioaaMFnExactDevOkx5
import Derived.Test.YtilhcaofpfeioaaPureFnExactDevOk
import Derived.Test.YtilhcaofpfeioaaOpens
import Derived.WalkKit
import Derived.ProofKit
import Derived.OpenShut
import Derived.ShutString
import Derived.ChangeOld
import Derived.Below
import Derived.SizedLaws
namespace Go.Proofs.Ytilhcaofpfeioaa.rowFnExactDevOk
open Go.ChangeShapes Go.WideShapes Go.ChangeAt Go.RowKit
open Go.ChangeMaps (open_string shut_string)
open Go.Proofs.YtilhcaofpfeioaaW.PrintWords Go.Proofs.Ytilhcaofpfeioaa.Op Go.Proofs.Ytilhcaofpfeioaa.PFnExactDevOk
set_option linter.unusedVariables false
set_option linter.unusedSimpArgs false
theorem own : ownKnob Try.prog.godebug = none := by kernel_rfl
theorem laidOut : laidOutB Try.prog = true := by kernel_rfl
theorem opensElWr : Opens Try.prog 81 k81 (fun x => ((Lit.int .i64 x.f0).wf = true ∧ (x.f1.length ≤ 9223372036854775807 ∧ ∀ y0 ∈ x.f1, (Lit.int .u8 y0).wf = true))) := opens_mono (opens_iso (fun x : S81 => (x.f0, x.f1)) (fun y => ⟨y.1, y.2⟩) (fun _ => rfl) (opens_struct Try.underlying81 (by kernel_rfl) (opensL_cons rfl (opens_int Try.underlying3) (by kernel_rfl) (opensL_one rfl ((opens_slice 5 Try.underlying37 (opens_int Try.underlying5) (by kernel_rfl))) (by kernel_rfl))))) (fun _ h => h)
theorem opensDev : Opens Try.prog 32 (Kd.pair (Kd.slice 37 (Kd.slice 5 (Kd.int .u8))) (Kd.pair (Kd.slice 81 (k81)) (Kd.pair (Kd.int .i64) (Kd.bool)))) (fun x => (x.1.length ≤ 9223372036854775807 ∧ ∀ y0 ∈ x.1, (y0.length ≤ 9223372036854775807 ∧ ∀ y1 ∈ y0, (Lit.int .u8 y1).wf = true)) ∧ (x.2.1.length ≤ 9223372036854775807 ∧ ∀ y0 ∈ x.2.1, ((Lit.int .i64 y0.f0).wf = true ∧ (y0.f1.length ≤ 9223372036854775807 ∧ ∀ y1 ∈ y0.f1, (Lit.int .u8 y1).wf = true))) ∧ (Lit.int .i64 x.2.2.1).wf = true ∧ True) := opens_struct Try.underlying32 (by kernel_rfl) (opensL_cons rfl ((opens_slice 37 Try.underlying22 ((opens_slice 5 Try.underlying37 (opens_int Try.underlying5) (by kernel_rfl))) (by kernel_rfl))) (by kernel_rfl) (opensL_cons rfl ((opens_slice 81 Try.underlying30 (opensElWr) (by kernel_rfl))) (by kernel_rfl) (opensL_cons rfl (opens_int Try.underlying3) (by kernel_rfl) (opensL_one rfl (opens_bool Try.underlying4) (by kernel_rfl)))))
set_option maxRecDepth 100000 in
theorem lifted (os : Os) (started : os.Started) (H : Type) (enc : TypeId × Value → H) :
    ReturnsInHanded {} Try.checked os 4 .any (Rows.fnExactDevOkSpec.pre6 enc Try.prog Try.f4 Rows.fnExactDevOkRow.domain false) (Rows.fnExactDevOkSpec.post enc Try.prog Try.f4 false true false false) := by
  refine returnsInHanded_of_change_sized (C := Try.checked) own started (by kernel_rfl) Try.func4
    (ChangeSpec.witness6 (enc := enc) (C := Try.checked) false ⟨#[], #[.agg #[.slice none 0 0, .slice none 0 0, .int .i64 0, .bool false]], []⟩ 8 (by kernel_rfl) (by kernel_rfl) (by kernel_rfl) (by kernel_rfl)) ?_
  intro W base args ds gs before hval0 hW hcnd hsz0 _
  have hval : ∀ (j : Nat) t v, Try.f4.params[j]? = some t → args[j]? = some v → Value.okWide Try.prog W .any base t v := hval0
  have hW' := hW
  obtain ⟨p, q, hA0, hV, rfl, hfz, hnd⟩ := hW
  have hA : DataW.TrodAll enc Try.prog W 0 (fun _ => true) true Try.f4.params.toList args.toList ds p := hA0
  rw [Try.params4] at hA hval
  obtain ⟨v0, vs0, d0, ds0, p0, q0, hargs, rfl, rfl, h0, r0⟩ := trodAll_cons hA
  obtain ⟨rfl, rfl, rfl⟩ := trodAll_nil r0
  obtain rfl : args = #[v0] := by cases args; simp_all
  obtain ⟨rfl, rfl⟩ := trodVars_none hV
  have k0 := h0
  have lt0 : ∀ x ∈ p0, x.block < W.heap.size := by obtain ⟨m, hm⟩ := k0; exact DataW.trod_lt m _ _ _ hm
  obtain ⟨fuel0, hf0⟩ := h0
  obtain ⟨cs0, rfl, _⟩ := okWide_struct Try.underlying32 (hval 0 32 v0 rfl rfl)
  obtain ⟨x0, hK0, g0⟩ := opensDev hf0
  obtain ⟨l0_0, l0_1, a0_2, a0_3⟩ := x0
  obtain ⟨_, _, e0, ⟨A0_0, c0_0, rfl, hc0_0, hC0_0⟩, ⟨_, _, rfl, ⟨A0_1, c0_1, rfl, hc0_1, hC0_1⟩, ⟨_, _, rfl, rfl, rfl⟩⟩⟩ := hK0
  obtain rfl : cs0 = #[.slice A0_0 l0_0.length c0_0, .slice A0_1 l0_1.length c0_1, .int .i64 a0_2, .bool a0_3] := by apply Array.toList_inj.1; exact e0
  clear hA0 hval0 hsz0
  obtain ⟨k, hk⟩ := Pure.FnExactDevOk l0_0 l0_1 a0_2 a0_3 g0
  refine (laws_FnExactDevOk.calls k _ _ _ _ _ _ _ _ true W hC0_0 hc0_0 hC0_1 hc0_1 hk).mono fun e W' ⟨he, bel0⟩ => ?_
  have bel : Below W.heap.size W W' := by first | exact bel0 | exact bel0.below
  subst he
  exact ⟨_, rfl, _, _, _, [], _, [], hW', trodAll_mk1 (shut_bool Try.underlying4 _), (trodAll_cons_mk (Below.trod laidOut (by kernel_rfl) (of_decide_eq_true (by kernel_rfl)) k0 bel lt0) trodAll_mk0), rfl, bel.frame _, fun h => by cases h⟩
theorem over : Rows.fnExactDevOkRow.holds Try.pinned (OpenSpec.ofChange Rows.fnExactDevOkSpec) :=
  OpenClaim.holds_of_wide 4 Try.f4 rfl rfl rfl rfl rfl rfl rfl ⟨rfl, rfl, rfl, rfl, rfl⟩ rfl rfl rfl rfl rfl (by kernel_rfl) Try.func4 (by kernel_rfl)
    (of_decide_eq_true (by kernel_rfl)) (by unfold Func.isWrapper; first | (rw [if_pos (by decide +kernel)]; kernel_rfl) | (rw [if_neg (by decide +kernel)]; exact ⟨rfl, rfl⟩))
    (fun os started H enc _ => lifted os started H enc)
theorem proved : Rows.FnExactDevOkSaid := over
#print axioms proved
end Go.Proofs.Ytilhcaofpfeioaa.rowFnExactDevOk
namespace Go.Proofs.Ytilhcaofpfeioaa
/-- The row, under a short name, for the claim. -/
theorem fnExactDevOk_holds : Rows.FnExactDevOkSaid := rowFnExactDevOk.proved
end Go.Proofs.Ytilhcaofpfeioaa
