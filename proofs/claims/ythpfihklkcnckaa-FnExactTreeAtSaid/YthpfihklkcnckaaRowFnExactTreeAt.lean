/- The row of the law: whatever its arguments, it answers true, and each reads behind the call as it read before; no condition. -/
import Derived.Test.YthpfihklkcnckaaRows
import Derived.Test.YthpfihklkcnckaaMFnExactTreeAtx0
import Derived.Test.YthpfihklkcnckaaMFnExactTreeAtx1
import Derived.Test.YthpfihklkcnckaaMFnExactTreeAtx2
import Derived.Test.YthpfihklkcnckaaMFnExactTreeAtx3
import Derived.Test.YthpfihklkcnckaaMFnExactTreeAtx4
import Derived.Test.YthpfihklkcnckaaMFnExactTreeAtx5
import Derived.Test.YthpfihklkcnckaaMFnExactTreeAtx6
import Derived.Test.YthpfihklkcnckaaMFnExactTreeAtx7
import Derived.Test.YthpfihklkcnckaaPureFnExactTreeAt
import Derived.Test.YthpfihklkcnckaaOpens
import Derived.WalkKit
import Derived.ProofKit
import Derived.OpenShut
import Derived.ShutString
import Derived.ChangeOld
import Derived.Below
import Derived.SizedLaws
namespace Go.Proofs.Ythpfihklkcnckaa.rowFnExactTreeAt
open Go.ChangeShapes Go.WideShapes Go.ChangeAt Go.RowKit
open Go.ChangeMaps (open_string shut_string)
open Go.Proofs.YthpfihklkcnckaaW.PrintWords Go.Proofs.Ythpfihklkcnckaa.Op Go.Proofs.Ythpfihklkcnckaa.PFnExactTreeAt
set_option linter.unusedVariables false
set_option linter.unusedSimpArgs false
theorem own : ownKnob Try.prog.godebug = none := by kernel_rfl
theorem laidOut : laidOutB Try.prog = true := by kernel_rfl
theorem opensElKey : Opens Try.prog 50 k50 (fun x => ((Lit.int .i64 x.f0).wf = true ∧ (Lit.int .i64 x.f1).wf = true ∧ (Lit.int .i64 x.f2).wf = true ∧ (Lit.int .i64 x.f3).wf = true ∧ (Lit.int .i64 x.f4).wf = true)) := opens_mono (opens_iso (fun x : S50 => (x.f0, x.f1, x.f2, x.f3, x.f4)) (fun y => ⟨y.1, y.2.1, y.2.2.1, y.2.2.2.1, y.2.2.2.2⟩) (fun _ => rfl) (opens_struct Try.underlying50 (by kernel_rfl) (opensL_cons rfl (opens_int Try.underlying3) (by kernel_rfl) (opensL_cons rfl (opens_int Try.underlying3) (by kernel_rfl) (opensL_cons rfl (opens_int Try.underlying3) (by kernel_rfl) (opensL_cons rfl (opens_int Try.underlying3) (by kernel_rfl) (opensL_one rfl (opens_int Try.underlying3) (by kernel_rfl)))))))) (fun _ h => h)
theorem opensElNode : Opens Try.prog 24 k24 (fun x => ((x.f0.length ≤ 9223372036854775807 ∧ ∀ y0 ∈ x.f0, (y0.length ≤ 9223372036854775807 ∧ ∀ y1 ∈ y0, ((Lit.int .i64 y1.f0).wf = true ∧ (Lit.int .i64 y1.f1).wf = true ∧ (Lit.int .i64 y1.f2).wf = true ∧ (Lit.int .i64 y1.f3).wf = true ∧ (Lit.int .i64 y1.f4).wf = true))))) := opens_mono (opens_iso (fun x : S24 => x.f0) (fun y => ⟨y⟩) (fun _ => rfl) (opens_struct Try.underlying24 (by kernel_rfl) (opensL_one rfl ((opens_slice 37 Try.underlying22 ((opens_slice 50 Try.underlying37 (opensElKey) (by kernel_rfl))) (by kernel_rfl))) (by kernel_rfl)))) (fun _ h => h)
theorem opensTree : Opens Try.prog 65 (Kd.pair (Kd.slice 3 (Kd.int .i64)) (Kd.slice 24 (k24))) (fun x => (x.1.length ≤ 9223372036854775807 ∧ ∀ y0 ∈ x.1, (Lit.int .i64 y0).wf = true) ∧ (x.2.length ≤ 9223372036854775807 ∧ ∀ y0 ∈ x.2, ((y0.f0.length ≤ 9223372036854775807 ∧ ∀ y1 ∈ y0.f0, (y1.length ≤ 9223372036854775807 ∧ ∀ y2 ∈ y1, ((Lit.int .i64 y2.f0).wf = true ∧ (Lit.int .i64 y2.f1).wf = true ∧ (Lit.int .i64 y2.f2).wf = true ∧ (Lit.int .i64 y2.f3).wf = true ∧ (Lit.int .i64 y2.f4).wf = true)))))) := opens_struct Try.underlying65 (by kernel_rfl) (opensL_cons rfl ((opens_slice 3 Try.underlying55 (opens_int Try.underlying3) (by kernel_rfl))) (by kernel_rfl) (opensL_one rfl ((opens_slice 24 Try.underlying63 (opensElNode) (by kernel_rfl))) (by kernel_rfl)))
set_option maxRecDepth 100000 in
theorem lifted (os : Os) (started : os.Started) (H : Type) (enc : TypeId × Value → H) :
    ReturnsInHanded {} Try.checked os 11 .any (Rows.fnExactTreeAtSpec.pre6 enc Try.prog Try.f11 Rows.fnExactTreeAtRow.domain false) (Rows.fnExactTreeAtSpec.post enc Try.prog Try.f11 false true false false) := by
  refine returnsInHanded_of_change_sized (C := Try.checked) own started (by kernel_rfl) Try.func11
    (ChangeSpec.witness6 (enc := enc) (C := Try.checked) false ⟨#[], #[.agg #[.slice none 0 0, .slice none 0 0], .int .i64 0, .int .i64 0], []⟩ 8 (by kernel_rfl) (by kernel_rfl) (by kernel_rfl) (by kernel_rfl)) ?_
  intro W base args ds gs before hval0 hW hcnd hsz0 _
  have hval : ∀ (j : Nat) t v, Try.f11.params[j]? = some t → args[j]? = some v → Value.okWide Try.prog W .any base t v := hval0
  have hW' := hW
  obtain ⟨p, q, hA0, hV, rfl, hfz, hnd⟩ := hW
  have hA : DataW.TrodAll enc Try.prog W 0 (fun _ => true) true Try.f11.params.toList args.toList ds p := hA0
  rw [Try.params11] at hA hval
  obtain ⟨v0, vs0, d0, ds0, p0, q0, hargs, rfl, rfl, h0, r0⟩ := trodAll_cons hA
  obtain ⟨v1, vs1, d1, ds1, p1, q1, rfl, rfl, rfl, h1, r1⟩ := trodAll_cons r0
  obtain ⟨v2, vs2, d2, ds2, p2, q2, rfl, rfl, rfl, h2, r2⟩ := trodAll_cons r1
  obtain ⟨rfl, rfl, rfl⟩ := trodAll_nil r2
  obtain rfl : args = #[v0, v1, v2] := by cases args; simp_all
  obtain ⟨rfl, rfl⟩ := trodVars_none hV
  have k0 := h0
  have lt0 : ∀ x ∈ p0, x.block < W.heap.size := by obtain ⟨m, hm⟩ := k0; exact DataW.trod_lt m _ _ _ hm
  obtain ⟨fuel0, hf0⟩ := h0
  obtain ⟨cs0, rfl, _⟩ := okWide_struct Try.underlying65 (hval 0 65 v0 rfl rfl)
  obtain ⟨x0, hK0, g0⟩ := opensTree hf0
  obtain ⟨l0_0, l0_1⟩ := x0
  obtain ⟨_, _, e0, ⟨A0_0, c0_0, rfl, hc0_0, hC0_0⟩, ⟨A0_1, c0_1, rfl, hc0_1, hC0_1⟩⟩ := hK0
  obtain rfl : cs0 = #[.slice A0_0 l0_0.length c0_0, .slice A0_1 l0_1.length c0_1] := by apply Array.toList_inj.1; exact e0
  obtain ⟨a1, rfl, rfl, rfl, w1⟩ := open_int Try.underlying3 (hval 1 3 v1 rfl rfl) h1
  obtain ⟨a2, rfl, rfl, rfl, w2⟩ := open_int Try.underlying3 (hval 2 3 v2 rfl rfl) h2
  clear hA0 hval0 hsz0
  obtain ⟨k, hk⟩ := Pure.FnExactTreeAt l0_0 l0_1 a1 a2 g0 w1 w2
  refine (laws_FnExactTreeAt.calls k _ _ _ _ _ _ _ _ true W hC0_0 hc0_0 hC0_1 hc0_1 hk).mono fun e W' ⟨he, bel0⟩ => ?_
  have bel : Below W.heap.size W W' := by first | exact bel0 | exact bel0.below
  subst he
  exact ⟨_, rfl, _, _, _, [], _, [], hW', trodAll_mk1 (shut_bool Try.underlying4 _), (trodAll_cons_mk (Below.trod laidOut (by kernel_rfl) (of_decide_eq_true (by kernel_rfl)) k0 bel lt0) (trodAll_cons_mk (shut_int Try.underlying3 w1) (trodAll_cons_mk (shut_int Try.underlying3 w2) trodAll_mk0))), rfl, bel.frame _, fun h => by cases h⟩
theorem over : Rows.fnExactTreeAtRow.holds Try.pinned (OpenSpec.ofChange Rows.fnExactTreeAtSpec) :=
  OpenClaim.holds_of_wide 11 Try.f11 rfl rfl rfl rfl rfl rfl rfl ⟨rfl, rfl, rfl, rfl, rfl⟩ rfl rfl rfl rfl rfl (by kernel_rfl) Try.func11 (by kernel_rfl)
    (of_decide_eq_true (by kernel_rfl)) (by unfold Func.isWrapper; first | (rw [if_pos (by decide +kernel)]; kernel_rfl) | (rw [if_neg (by decide +kernel)]; exact ⟨rfl, rfl⟩))
    (fun os started H enc _ => lifted os started H enc)
theorem proved : Rows.FnExactTreeAtSaid := over
#print axioms proved
end Go.Proofs.Ythpfihklkcnckaa.rowFnExactTreeAt
namespace Go.Proofs.Ythpfihklkcnckaa
/-- The row, under a short name, for the claim. -/
theorem fnExactTreeAt_holds : Rows.FnExactTreeAtSaid := rowFnExactTreeAt.proved
end Go.Proofs.Ythpfihklkcnckaa
