/- The row of the law: whatever its arguments, it answers true, and each reads behind the call as it read before; no condition. -/
import Derived.Test.YthpfihklkcnckaaRows
import Derived.Test.YthpfihklkcnckaaMFnExactNodePackx0
import Derived.Test.YthpfihklkcnckaaMFnExactNodePackx1
import Derived.Test.YthpfihklkcnckaaMFnExactNodePackx2
import Derived.Test.YthpfihklkcnckaaMFnExactNodePackx3
import Derived.Test.YthpfihklkcnckaaMFnExactNodePackx4
import Derived.Test.YthpfihklkcnckaaMFnExactNodePackx5
import Derived.Test.YthpfihklkcnckaaMFnExactNodePackx6
import Derived.Test.YthpfihklkcnckaaLFnExactNodePack
import Derived.Test.YthpfihklkcnckaaPureFnExactNodePack
import Derived.Test.YthpfihklkcnckaaOpens
import Derived.WalkKit
import Derived.ProofKit
import Derived.OpenShut
import Derived.ShutString
import Derived.ChangeOld
import Derived.Below
import Derived.SizedLaws
namespace Go.Proofs.Ythpfihklkcnckaa.rowFnExactNodePack
open Go.ChangeShapes Go.WideShapes Go.ChangeAt Go.RowKit
open Go.ChangeMaps (open_string shut_string)
open Go.Proofs.YthpfihklkcnckaaW.PrintWords Go.Proofs.Ythpfihklkcnckaa.Op Go.Proofs.Ythpfihklkcnckaa.PFnExactNodePack Go.Proofs.Ythpfihklkcnckaa.Law
set_option linter.unusedVariables false
set_option linter.unusedSimpArgs false
theorem own : ownKnob Try.prog.godebug = none := by kernel_rfl
theorem laidOut : laidOutB Try.prog = true := by kernel_rfl
theorem opensElKey : Opens Try.prog 50 k50 (fun x => ((Lit.int .i64 x.f0).wf = true ∧ (Lit.int .i64 x.f1).wf = true ∧ (Lit.int .i64 x.f2).wf = true ∧ (Lit.int .i64 x.f3).wf = true ∧ (Lit.int .i64 x.f4).wf = true)) := opens_mono (opens_iso (fun x : S50 => (x.f0, x.f1, x.f2, x.f3, x.f4)) (fun y => ⟨y.1, y.2.1, y.2.2.1, y.2.2.2.1, y.2.2.2.2⟩) (fun _ => rfl) (opens_struct Try.underlying50 (by kernel_rfl) (opensL_cons rfl (opens_int Try.underlying3) (by kernel_rfl) (opensL_cons rfl (opens_int Try.underlying3) (by kernel_rfl) (opensL_cons rfl (opens_int Try.underlying3) (by kernel_rfl) (opensL_cons rfl (opens_int Try.underlying3) (by kernel_rfl) (opensL_one rfl (opens_int Try.underlying3) (by kernel_rfl)))))))) (fun _ h => h)
theorem opensNode : Opens Try.prog 24 (Kd.slice 37 (Kd.slice 50 (k50))) (fun x => (x.length ≤ 9223372036854775807 ∧ ∀ y0 ∈ x, (y0.length ≤ 9223372036854775807 ∧ ∀ y1 ∈ y0, ((Lit.int .i64 y1.f0).wf = true ∧ (Lit.int .i64 y1.f1).wf = true ∧ (Lit.int .i64 y1.f2).wf = true ∧ (Lit.int .i64 y1.f3).wf = true ∧ (Lit.int .i64 y1.f4).wf = true)))) := opens_struct Try.underlying24 (by kernel_rfl) (opensL_one rfl ((opens_slice 37 Try.underlying22 ((opens_slice 50 Try.underlying37 (opensElKey) (by kernel_rfl))) (by kernel_rfl))) (by kernel_rfl))
set_option maxRecDepth 100000 in
theorem lifted (os : Os) (started : os.Started) (H : Type) (enc : TypeId × Value → H) :
    ReturnsInHanded {} Try.checked os 7 .any (Rows.fnExactNodePackSpec.pre6 enc Try.prog Try.f7 Rows.fnExactNodePackRow.domain false) (Rows.fnExactNodePackSpec.post enc Try.prog Try.f7 false true false false) := by
  refine returnsInHanded_of_change_sized (C := Try.checked) own started (by kernel_rfl) Try.func7
    (ChangeSpec.witness6 (enc := enc) (C := Try.checked) false ⟨#[], #[.agg #[.slice none 0 0]], []⟩ 8 (by kernel_rfl) (by kernel_rfl) (by kernel_rfl) (by kernel_rfl)) ?_
  intro W base args ds gs before hval0 hW hcnd hsz0 _
  have hval : ∀ (j : Nat) t v, Try.f7.params[j]? = some t → args[j]? = some v → Value.okWide Try.prog W .any base t v := hval0
  have hW' := hW
  obtain ⟨p, q, hA0, hV, rfl, hfz, hnd⟩ := hW
  have hA : DataW.TrodAll enc Try.prog W 0 (fun _ => true) true Try.f7.params.toList args.toList ds p := hA0
  rw [Try.params7] at hA hval
  obtain ⟨v0, vs0, d0, ds0, p0, q0, hargs, rfl, rfl, h0, r0⟩ := trodAll_cons hA
  obtain ⟨rfl, rfl, rfl⟩ := trodAll_nil r0
  obtain rfl : args = #[v0] := by cases args; simp_all
  obtain ⟨rfl, rfl⟩ := trodVars_none hV
  have k0 := h0
  have lt0 : ∀ x ∈ p0, x.block < W.heap.size := by obtain ⟨m, hm⟩ := k0; exact DataW.trod_lt m _ _ _ hm
  obtain ⟨fuel0, hf0⟩ := h0
  obtain ⟨cs0, rfl, _⟩ := okWide_struct Try.underlying24 (hval 0 24 v0 rfl rfl)
  obtain ⟨x0, hK0, g0⟩ := opensNode hf0
  obtain ⟨l0_0, hx0⟩ : ∃ y, y = x0 := ⟨_, rfl⟩
  subst hx0
  obtain ⟨A0_0, c0_0, e0, hc0_0, hC0_0⟩ := hK0
  obtain rfl : cs0 = #[.slice A0_0 l0_0.length c0_0] := by apply Array.toList_inj.1; exact e0
  clear hA0 hval0 hsz0
  refine (laws_FnExactNodePack.calls _ _ _ W hC0_0 hc0_0 g0).mono fun e W' ⟨he, bel0⟩ => ?_
  have bel : Below W.heap.size W W' := by first | exact bel0 | exact bel0.below
  subst he
  exact ⟨_, rfl, _, _, _, [], _, [], hW', trodAll_mk1 (shut_bool Try.underlying4 _), (trodAll_cons_mk (Below.trod laidOut (by kernel_rfl) (of_decide_eq_true (by kernel_rfl)) k0 bel lt0) trodAll_mk0), rfl, bel.frame _, fun h => by cases h⟩
theorem over : Rows.fnExactNodePackRow.holds Try.pinned (OpenSpec.ofChange Rows.fnExactNodePackSpec) :=
  OpenClaim.holds_of_wide 7 Try.f7 rfl rfl rfl rfl rfl rfl rfl ⟨rfl, rfl, rfl, rfl, rfl⟩ rfl rfl rfl rfl rfl (by kernel_rfl) Try.func7 (by kernel_rfl)
    (of_decide_eq_true (by kernel_rfl)) (by unfold Func.isWrapper; first | (rw [if_pos (by decide +kernel)]; kernel_rfl) | (rw [if_neg (by decide +kernel)]; exact ⟨rfl, rfl⟩))
    (fun os started H enc _ => lifted os started H enc)
theorem proved : Rows.FnExactNodePackSaid := over
#print axioms proved
end Go.Proofs.Ythpfihklkcnckaa.rowFnExactNodePack
namespace Go.Proofs.Ythpfihklkcnckaa
/-- The row, under a short name, for the claim. -/
theorem fnExactNodePack_holds : Rows.FnExactNodePackSaid := rowFnExactNodePack.proved
end Go.Proofs.Ythpfihklkcnckaa
