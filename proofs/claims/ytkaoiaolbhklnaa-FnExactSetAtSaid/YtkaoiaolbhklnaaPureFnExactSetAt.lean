/- Whatever the arguments: the law answers true; said of the plain functions that the print made of the Go text, with no condition but that the arguments are of their kinds. -/
import Derived.Test.YtkaoiaolbhklnaaPFnExactSetAtx0
import Derived.Test.YtkaoiaolbhklnaaPFnExactSetAtx1
import Derived.Test.YtkaoiaolbhklnaaPFnExactSetAtx2
import Derived.Test.YtkaoiaolbhklnaaCore
namespace Go.Proofs.Ytkaoiaolbhklnaa.Pure
open Go.RowKit Go.Proofs.Ytkaoiaolbhklnaa.PFnExactSetAt Go.Proofs.Ytkaoiaolbhklnaa.Core Go.Proofs.YtkaoiaolbhklnaaW.PrintWords Go.Proofs.YtkaoiaolbhklnaaW.PrintLast
set_option linter.unusedSimpArgs false
set_option linter.unusedVariables false

def toK (x : S24) : S27 := ⟨x.f0, x.f1, x.f2, x.f3, x.f4⟩

def okKeyS (l : List S27) : Prop := l.length ≤ 4194304
def cntKeyS (l : List S27) : Int := 5 * l.length
theorem cntKeyS_nn {l : List S27} (h : okKeyS l) : 0 ≤ cntKeyS l ∧ cntKeyS l ≤ 1073741824 := by unfold okKeyS at h; unfold cntKeyS; omega
def inKeyS (l : List S24) : Prop := l.length ≤ 1048576
def sumKeyS (l : List S24) : Int := l.length
theorem sumKeyS_nn (l : List S24) : 0 ≤ sumKeyS l := by unfold sumKeyS; omega
theorem in_of_sumKeyS {l : List S24} (h : sumKeyS l ≤ 1048576) : inKeyS l := by unfold sumKeyS at h; unfold inKeyS; omega
theorem ok_of_inKeyS {l : List S24} (h : inKeyS l) : okKeyS (l.map toK) := by unfold inKeyS at h; unfold okKeyS; rw [List.length_map]; omega
def goodK (x : S24) : Prop := (Lit.int .i64 x.f0).wf = true ∧ (Lit.int .i64 x.f1).wf = true ∧ (Lit.int .i64 x.f2).wf = true ∧ (Lit.int .i64 x.f3).wf = true ∧ (Lit.int .i64 x.f4).wf = true

theorem szKeyS_f (l : List S24) (a : Int) (hl : l.length ≤ 9223372036854775807) (h0 : 0 ≤ a) (h1 : a ≤ 1048576) : laws_szKeyS.f l a = some (if a < sumKeyS l then -1 else a - sumKeyS l) := by
  unfold laws_szKeyS.f sumKeyS
  rw [w64 (by omega) (by omega)]
  by_cases h : a < (l.length : Int)
  · rw [if_pos (by omega), if_pos h]
  · rw [if_neg (by omega), if_neg h]

def at6 : Option S27 → Int × Int × Int × Int × Int × Bool
  | some x => (x.f0, x.f1, x.f2, x.f3, x.f4, true)
  | none => (0, 0, 0, 0, 0, false)
def setAt (l : List S27) (a b : Int) : Option S27 := l.find? fun x => decide (x.f0 = a) && decide (x.f1 = b)

theorem spec_SetAt_ev (l : List S27) (a b : Int) (h : l.length ≤ 4194304) : Ev (fun k => spec_SetAt.f k l a b) (at6 (setAt l a b)) := by
  obtain ⟨K, hk⟩ := evRange0 (σ := Unit) l.length (fun k _ i => spec_SetAt.l0 k l a b i) (fun _ _ => True) (fun i _ => at6 (setAt (l.drop i) a b)) () trivial
    (by
      intro i _ hi _
      have hd := drop_getD l i z27 hi
      have hr : rd_T27 l (i : Int) = l.getD i z27 := by simp [rd_T27]
      generalize l.getD i z27 = y at *
      by_cases h1 : y.f0 = a ∧ y.f1 = b
      · refine .inr ⟨0, 1, fun k _ => ?_⟩
        simp only [spec_SetAt.l0, hr]
        rw [if_pos (by omega), if_pos (by omega), if_pos h1.1, if_pos h1.2, hd, setAt, List.find?_cons_of_pos (by simp [h1])]
        rfl
      · refine .inl ⟨(), trivial, ?_, 0, 1, fun k _ => ?_⟩
        · rw [hd, setAt, setAt, List.find?_cons_of_neg (by simpa using h1)]
        · simp only [spec_SetAt.l0, hr]
          rw [if_pos (by omega), if_pos (by omega), w64s i (by omega)]
          by_cases h2 : y.f0 = a
          · rw [if_pos h2, if_neg (fun h3 => h1 ⟨h2, h3⟩)]
          · rw [if_neg h2])
    (by
      intro _ _
      refine ⟨0, 1, fun k _ => ?_⟩
      simp only [spec_SetAt.l0]
      rw [if_neg (by omega)]
      simp [setAt, at6])
  exact ⟨K, fun k hk' => hk k hk'⟩

theorem toKeyS_ev (l : List S24) (hi : inKeyS l) : Ev (fun k => laws_toKeyS.f k l) (l.map toK) := by
  have h : l.length ≤ 1048576 := hi
  have hl : ∀ i, i ≤ l.length → (fill (fun i => toK (l.getD i z24)) (List.replicate l.length z27) i).length = l.length := fun i hi => by rw [fill_length _ _ _ (by simpa using hi)]; simp
  obtain ⟨K, hk⟩ := evRange0 (σ := List S27) l.length (fun k s i => laws_toKeyS.l0 k l s i) (fun i s => s = fill (fun i => toK (l.getD i z24)) (List.replicate l.length z27) i) (fun _ _ => l.map toK) (List.replicate l.length z27) (fill_zero _ _).symm
    (by
      intro i s hi hs
      subst hs
      refine .inl ⟨_, rfl, rfl, 0, 1, fun k _ => ?_⟩
      have h1 := hl i (by omega)
      simp only [laws_toKeyS.l0]
      rw [if_pos (by omega), if_pos (by omega)]
      simp only [laws_toKey.f, Option.bind_some]
      rw [if_pos (by omega), w64s i (by omega), Int.toNat_natCast, fill_set _ _ _ (by simpa using hi)]
      simp [toK, rd_T24])
    (by
      intro s hs
      subst hs
      refine ⟨0, 1, fun k _ => ?_⟩
      simp only [laws_toKeyS.l0]
      rw [if_neg (by omega)]
      have := fill_all (fun i => toK (l.getD i z24)) (List.replicate l.length z27)
      rw [List.length_replicate] at this
      rw [this, range_map])
  refine ⟨K, fun k hk' => ?_⟩
  simp only [laws_toKeyS.f]
  rw [if_pos (by omega), if_pos (by omega)]
  have e := hk k hk'
  simpa using e

theorem impl_SetAt_ev (l : List S27) (a b : Int) (h : l.length ≤ 4194304) : Ev (fun k => impl_SetAt.f k l a b) (at6 (setAt l a b)) := by
  obtain ⟨K, hk⟩ := evRange0 (σ := Unit) l.length (fun k _ i => impl_SetAt.l0 k a b l (l.length : Int) i) (fun _ _ => True) (fun i _ => at6 (setAt (l.drop i) a b)) () trivial
    (by
      intro i _ hi _
      have hd := drop_getD l i z27 hi
      have hr : rd_T27 l (i : Int) = l.getD i z27 := by simp [rd_T27]
      generalize l.getD i z27 = y at *
      by_cases h1 : y.f0 = a ∧ y.f1 = b
      · refine .inr ⟨0, 1, fun k _ => ?_⟩
        simp only [impl_SetAt.l0, hr]
        rw [if_pos (by omega), if_pos (by omega), if_pos (by omega), if_pos h1.1, if_pos h1.2, hd, setAt, List.find?_cons_of_pos (by simp [h1])]
        rfl
      · refine .inl ⟨(), trivial, ?_, 0, 1, fun k _ => ?_⟩
        · rw [hd, setAt, setAt, List.find?_cons_of_neg (by simpa using h1)]
        · simp only [impl_SetAt.l0, hr]
          rw [if_pos (by omega), if_pos (by omega), if_pos (by omega), w64s i (by omega)]
          by_cases h2 : y.f0 = a
          · rw [if_pos h2, if_neg (fun h3 => h1 ⟨h2, h3⟩)]
          · rw [if_neg h2])
    (by
      intro _ _
      refine ⟨0, 1, fun k _ => ?_⟩
      simp only [impl_SetAt.l0]
      rw [if_neg (by omega)]
      simp [setAt, at6])
  exact ⟨K, fun k hk' => hk k hk'⟩

theorem eqKey_refl (x : S27) : laws_eqKey.f x.f0 x.f1 x.f2 x.f3 x.f4 x.f0 x.f1 x.f2 x.f3 x.f4 = some true := by simp [laws_eqKey.f]
theorem eqKey_same (a b c d e : Int) : laws_eqKey.f a b c d e a b c d e = some true := by simp [laws_eqKey.f]
theorem eqKeyS_ev (l : List S27) (ho : okKeyS l) : Ev (fun k => laws_eqKeyS.f k l l) true := by
  have h : l.length ≤ 4194304 := ho
  obtain ⟨K, hk⟩ := evRange0 (σ := Unit) l.length (fun k _ i => laws_eqKeyS.l0 k l l i) (fun _ _ => True) (fun _ _ => true) () trivial
    (by
      intro i _ hi _
      refine .inl ⟨(), trivial, rfl, 0, 1, fun k _ => ?_⟩
      simp only [laws_eqKeyS.l0]
      rw [if_pos (by omega), if_pos (by omega), if_pos (by omega), eqKey_refl, w64s i (by omega)]
      rfl)
    (by
      intro _ _
      refine ⟨0, 1, fun k _ => ?_⟩
      simp only [laws_eqKeyS.l0]
      rw [if_neg (by omega)])
  refine ⟨K, fun k hk' => ?_⟩
  simp only [laws_eqKeyS.f]
  rw [if_pos trivial]
  exact hk k hk'

theorem FnExactSetAt (l0 : List S24) (a1 : Int) (a2 : Int) (h0 : (l0.length ≤ 9223372036854775807 ∧ ∀ x ∈ l0, goodK x)) (h1 : (Lit.int .i64 a1).wf = true) (h2 : (Lit.int .i64 a2).wf = true) : ∃ k, laws_FnExactSetAt.f k l0 a1 a2 = some true := by
  apply Ev.rounds
  unfold laws_FnExactSetAt.f
  have u0 := sumKeyS_nn l0
  have z0 := szKeyS_f l0 (1048576) h0.1 (by omega) (by omega)
  by_cases c0 : 1048576 < (sumKeyS l0 : Int)
  · rw [if_pos c0] at z0; simp only [z0, Option.bind_some, if_pos (show (-1 : Int) < 0 by decide)]; exact Ev.now _
  rw [if_neg c0] at z0
  simp only [z0, Option.bind_some, if_neg (show ¬ (1048576 - sumKeyS l0 : Int) < 0 by omega)]
  have i0 : inKeyS l0 := in_of_sumKeyS (by omega)
  have o0 : okKeyS (l0.map toK) := ok_of_inKeyS i0
  have q0 := cntKeyS_nn o0
  repeat' (first
    | exact Ev.now _
    | (refine Ev.bind (toKeyS_ev _ (by assumption)) ?_)
    | (refine Ev.bind (eqKeyS_ev _ (by assumption)) ?_)
    | (refine Ev.bind (markKeyS_ev _ _ (by assumption) (by omega) (by omega)) ?_)
    | (refine Ev.bind (heldKeyS_ev _ _ (by assumption) (by omega) (by omega)) ?_)
    | (refine Ev.bind (spec_SetAt_ev _ _ _ o0) ?_)
    | (refine Ev.bind (impl_SetAt_ev _ _ _ o0) ?_)
    | (simp only [Option.bind_some, ↓reduceIte, bne_self_eq_false, Bool.false_eq_true, Bool.not_true, eqKey_same])
    | (refine Ev.step (fun _ => rfl) ?_; simp only [laws_FnExactSetAt.j0]))

end Go.Proofs.Ytkaoiaolbhklnaa.Pure
