/- The row of the law: whatever its arguments, it answers true, and each reads behind the call as it read before; no condition. -/
import Derived.Test.YtpncphhbdkomjaaRows
import Derived.Test.YtpncphhbdkomjaaMFnAgesBentx0
import Derived.Test.YtpncphhbdkomjaaMFnAgesBentx1
import Derived.Test.YtpncphhbdkomjaaMFnAgesBentx2
import Derived.Test.YtpncphhbdkomjaaMFnAgesBentx3
import Derived.Test.YtpncphhbdkomjaaMFnAgesBentx4
import Derived.Test.YtpncphhbdkomjaaMFnAgesBentx5
import Derived.Test.YtpncphhbdkomjaaMFnAgesBentx6
import Derived.Test.YtpncphhbdkomjaaMFnAgesBentx7
import Derived.Test.YtpncphhbdkomjaaMFnAgesBentx8
import Derived.Test.YtpncphhbdkomjaaMFnAgesBentx9
import Derived.Test.YtpncphhbdkomjaaLFnAgesBent
import Derived.Test.YtpncphhbdkomjaaPureFnAgesBent
import Derived.Test.YtpncphhbdkomjaaOpens
import Derived.WalkKit
import Derived.ProofKit
import Derived.OpenShut
import Derived.ShutString
import Derived.ChangeOld
import Derived.Below
import Derived.SizedLaws
namespace Go.Proofs.Ytpncphhbdkomjaa.rowFnAgesBent
open Go.ChangeShapes Go.WideShapes Go.ChangeAt Go.RowKit
open Go.ChangeMaps (open_string shut_string)
open Go.Proofs.YtpncphhbdkomjaaW.PrintWords Go.Proofs.Ytpncphhbdkomjaa.Op Go.Proofs.Ytpncphhbdkomjaa.PFnAgesBent Go.Proofs.Ytpncphhbdkomjaa.Law
set_option linter.unusedVariables false
set_option linter.unusedSimpArgs false
theorem own : ownKnob Try.prog.godebug = none := by kernel_rfl
theorem laidOut : laidOutB Try.prog = true := by kernel_rfl
set_option maxRecDepth 100000 in
theorem lifted (os : Os) (started : os.Started) (H : Type) (enc : TypeId × Value → H) :
    ReturnsInHanded {} Try.checked os 12 .any (Rows.fnAgesBentSpec.pre6 enc Try.prog Try.f12 Rows.fnAgesBentRow.domain false) (Rows.fnAgesBentSpec.post enc Try.prog Try.f12 false true false false) := by
  refine returnsInHanded_of_change_sized (C := Try.checked) own started (by kernel_rfl) Try.func12
    (ChangeSpec.witness6 (enc := enc) (C := Try.checked) false ⟨#[], #[.slice none 0 0], []⟩ 8 (by kernel_rfl) (by kernel_rfl) (by kernel_rfl) (by kernel_rfl)) ?_
  intro W base args ds gs before hval0 hW hcnd hsz0 _
  have hval : ∀ (j : Nat) t v, Try.f12.params[j]? = some t → args[j]? = some v → Value.okWide Try.prog W .any base t v := hval0
  have hW' := hW
  obtain ⟨p, q, hA0, hV, rfl, hfz, hnd⟩ := hW
  have hA : DataW.TrodAll enc Try.prog W 0 (fun _ => true) true Try.f12.params.toList args.toList ds p := hA0
  rw [Try.params12] at hA hval
  obtain ⟨v0, vs0, d0, ds0, p0, q0, hargs, rfl, rfl, h0, r0⟩ := trodAll_cons hA
  obtain ⟨rfl, rfl, rfl⟩ := trodAll_nil r0
  obtain rfl : args = #[v0] := by cases args; simp_all
  obtain ⟨rfl, rfl⟩ := trodVars_none hV
  have k0 := h0
  have lt0 : ∀ x ∈ p0, x.block < W.heap.size := by obtain ⟨m, hm⟩ := k0; exact DataW.trod_lt m _ _ _ hm
  obtain ⟨fuel0, hf0⟩ := h0
  obtain ⟨b0, len0, cap0, rfl⟩ := okWide_slice Try.underlying39 (hval 0 39 v0 rfl rfl)
  obtain ⟨l0, ⟨A0, c0, e0, hc0, hC0⟩, g0⟩ := (opens_slice 5 Try.underlying39 (opens_int Try.underlying5) (by kernel_rfl)) hf0
  simp only [Value.cells, List.cons.injEq, Value.slice.injEq, and_true] at e0
  obtain ⟨rfl, rfl, rfl⟩ := e0
  clear hA0 hval0 hsz0
  refine (laws_FnAgesBent.calls _ _ _ W hC0 hc0 g0).mono fun e W' ⟨he, bel0⟩ => ?_
  have bel : Below W.heap.size W W' := by first | exact bel0 | exact bel0.below
  subst he
  exact ⟨_, rfl, _, _, _, [], _, [], hW', trodAll_mk1 (shut_bool Try.underlying4 _), (trodAll_cons_mk (Below.trod laidOut (by kernel_rfl) (of_decide_eq_true (by kernel_rfl)) k0 bel lt0) trodAll_mk0), rfl, bel.frame _, fun h => by cases h⟩
theorem over : Rows.fnAgesBentRow.holds Try.pinned (OpenSpec.ofChange Rows.fnAgesBentSpec) :=
  OpenClaim.holds_of_wide 12 Try.f12 rfl rfl rfl rfl rfl rfl rfl ⟨rfl, rfl, rfl, rfl, rfl⟩ rfl rfl rfl rfl rfl (by kernel_rfl) Try.func12 (by kernel_rfl)
    (of_decide_eq_true (by kernel_rfl)) (by unfold Func.isWrapper; first | (rw [if_pos (by decide +kernel)]; kernel_rfl) | (rw [if_neg (by decide +kernel)]; exact ⟨rfl, rfl⟩))
    (fun os started H enc _ => lifted os started H enc)
theorem proved : Rows.FnAgesBentSaid := over
#print axioms proved
end Go.Proofs.Ytpncphhbdkomjaa.rowFnAgesBent
namespace Go.Proofs.Ytpncphhbdkomjaa
/-- The row, under a short name, for the claim. -/
theorem fnAgesBent_holds : Rows.FnAgesBentSaid := rowFnAgesBent.proved
end Go.Proofs.Ytpncphhbdkomjaa
