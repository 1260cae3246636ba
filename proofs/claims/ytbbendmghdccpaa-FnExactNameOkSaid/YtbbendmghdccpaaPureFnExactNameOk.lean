/- Whatever the arguments: the law answers true; said of the plain functions that the print made of the Go text, with no condition but that the arguments are of their kinds. -/
import Derived.Test.YtbbendmghdccpaaPFnExactNameOkx0
import Derived.Test.YtbbendmghdccpaaPFnExactNameOkx1
import Derived.Test.YtbbendmghdccpaaCore
namespace Go.Proofs.Ytbbendmghdccpaa.Pure
open Go.RowKit Go.Proofs.Ytbbendmghdccpaa.PFnExactNameOk Go.Proofs.Ytbbendmghdccpaa.Core Go.Proofs.YtbbendmghdccpaaW.PrintWords Go.Proofs.YtbbendmghdccpaaW.PrintLast
set_option linter.unusedSimpArgs false
set_option linter.unusedVariables false

theorem spec_l1In_f (a b c : Int) : spec_l1In.f a b c = some (decide (b ≤ a ∧ a ≤ c)) := by
  unfold spec_l1In.f
  by_cases h : a ≥ b
  · rw [if_pos h]; congr 1; rw [Bool.eq_iff_iff]; simp; omega
  · rw [if_neg h]; congr 1; rw [Bool.eq_iff_iff]; simp; omega

def nameOk (s : ByteArray) : Bool := allFrom (fun i => decide (97 ≤ bt s i ∧ bt s i ≤ 122) || decide (48 ≤ bt s i ∧ bt s i ≤ 57)) s.size 0 && decide (1 ≤ (s.size : Int) ∧ (s.size : Int) ≤ 6)

theorem spec_NameOk_ev (s : ByteArray) (h : s.size ≤ 4194304) : Ev (fun k => spec_NameOk.f k s) (nameOk s) := by
  have := evAll s.size (fun k i => spec_NameOk.l0 k s i) (fun i => decide (97 ≤ bt s i ∧ bt s i ≤ 122) || decide (48 ≤ bt s i ∧ bt s i ≤ 57)) (decide (1 ≤ (s.size : Int) ∧ (s.size : Int) ≤ 6))
    (by
      intro i hi
      refine ⟨0, 1, fun k _ => ?_⟩
      have hr := bt_range s (i : Int)
      simp only [spec_NameOk.l0, spec_l1In_f, Option.bind_some]
      rw [if_pos (by omega), if_pos (by omega), w64 (x := bt s i) (by omega) (by omega), w64s i (by omega)]
      cases h1 : decide (97 ≤ bt s i ∧ bt s i ≤ 122) <;> simp only [Bool.true_or, Bool.false_or, if_true, Bool.false_eq_true, if_false])
    (by
      refine ⟨0, 1, fun k _ => ?_⟩
      simp only [spec_NameOk.l0, spec_l1In_f, Option.bind_some]
      rw [if_neg (by omega)]) 0 (Nat.zero_le _)
  obtain ⟨K, hk⟩ := this
  exact ⟨K, fun k hk' => hk k hk'⟩

theorem impl_within_f (a b c : Int) : impl_within.f a b c = some (decide (b ≤ a ∧ a ≤ c)) := by
  unfold impl_within.f
  by_cases h : a ≥ b
  · rw [if_pos h]; congr 1; rw [Bool.eq_iff_iff]; simp; omega
  · rw [if_neg h]; congr 1; rw [Bool.eq_iff_iff]; simp; omega

theorem impl_NameOk_ev (s : ByteArray) (h : s.size ≤ 4194304) : Ev (fun k => impl_NameOk.f k s) (nameOk s) := by
  have := evAll s.size (fun k i => impl_NameOk.l0 k s i) (fun i => decide (97 ≤ bt s i ∧ bt s i ≤ 122) || decide (48 ≤ bt s i ∧ bt s i ≤ 57)) (decide (1 ≤ (s.size : Int) ∧ (s.size : Int) ≤ 6))
    (by
      intro i hi
      refine ⟨0, 1, fun k _ => ?_⟩
      have hr := bt_range s (i : Int)
      simp only [impl_NameOk.l0, impl_within_f, Option.bind_some]
      rw [if_pos (by omega), if_pos (by omega), w64 (x := bt s i) (by omega) (by omega), w64s i (by omega)]
      cases h1 : decide (97 ≤ bt s i ∧ bt s i ≤ 122) <;> simp only [Bool.true_or, Bool.false_or, if_true, Bool.false_eq_true, if_false])
    (by
      refine ⟨0, 1, fun k _ => ?_⟩
      simp only [impl_NameOk.l0, impl_within_f, Option.bind_some]
      rw [if_neg (by omega)]) 0 (Nat.zero_le _)
  obtain ⟨K, hk⟩ := this
  exact ⟨K, fun k hk' => hk k hk'⟩

theorem FnExactNameOkp (a0 : ByteArray) (h0 : a0.size ≤ 9223372036854775807) : ∃ k, laws_FnExactNameOk.f k a0 = some true := by
  apply Ev.rounds
  unfold laws_FnExactNameOk.f
  by_cases c0 : (a0.size : Int) > 1048576
  · simp only [if_pos c0]; exact Ev.now _
  simp only [if_neg c0]
  repeat' (first
    | exact Ev.now _
    | (refine Ev.bind (impl_NameOk_ev _ (by omega)) ?_)
    | (refine Ev.bind (spec_NameOk_ev _ (by omega)) ?_)
    | (simp only [Option.bind_some, ↓reduceIte, bne_self_eq_false, Bool.false_eq_true, Bool.not_true, eq_self, ]))
theorem FnExactNameOk : laws_FnExactNameOk.Pure := fun x0 m0 => FnExactNameOkp x0 (by omega)

end Go.Proofs.Ytbbendmghdccpaa.Pure
