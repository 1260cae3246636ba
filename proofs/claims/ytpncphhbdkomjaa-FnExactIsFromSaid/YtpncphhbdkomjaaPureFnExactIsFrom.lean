/- Whatever the arguments: the law answers true; said of the plain functions that the print made of the Go text, with no condition but that the arguments are of their kinds. -/
import Derived.Test.YtpncphhbdkomjaaMFnExactIsFromx0
import Derived.Test.YtpncphhbdkomjaaMFnExactIsFromx1
import Derived.Test.YtpncphhbdkomjaaMFnExactIsFromx2
import Derived.Test.YtpncphhbdkomjaaCore
namespace Go.Proofs.Ytpncphhbdkomjaa.Pure
open Go.RowKit Go.Proofs.Ytpncphhbdkomjaa.PFnExactIsFrom Go.Proofs.Ytpncphhbdkomjaa.Core Go.Proofs.YtpncphhbdkomjaaW.PrintWords Go.Proofs.YtpncphhbdkomjaaW.PrintLast
set_option linter.unusedSimpArgs false
set_option linter.unusedVariables false

def toA (x : S51) : S46 := ⟨x.f0, x.f1⟩

def okAgeS (l : List S46) : Prop := l.length ≤ 4194304
def cntAgeS (l : List S46) : Int := 2 * l.length
theorem cntAgeS_nn {l : List S46} (h : okAgeS l) : 0 ≤ cntAgeS l ∧ cntAgeS l ≤ 1073741824 := by unfold okAgeS at h; unfold cntAgeS; omega
def inAgeS (l : List S51) : Prop := l.length ≤ 1048576
def sumAgeS (l : List S51) : Int := l.length
theorem sumAgeS_nn (l : List S51) : 0 ≤ sumAgeS l := by unfold sumAgeS; omega
theorem in_of_sumAgeS {l : List S51} (h : sumAgeS l ≤ 1048576) : inAgeS l := by unfold sumAgeS at h; unfold inAgeS; omega
theorem ok_of_inAgeS {l : List S51} (h : inAgeS l) : okAgeS (l.map toA) := by unfold inAgeS at h; unfold okAgeS; rw [List.length_map]; omega

theorem szAgeS_f (l : List S51) (a : Int) (hl : l.length ≤ 9223372036854775807) (h0 : 0 ≤ a) (h1 : a ≤ 1048576) : laws_szAgeS.f l a = some (if a < sumAgeS l then -1 else a - sumAgeS l) := by
  unfold laws_szAgeS.f sumAgeS
  rw [w64 (by omega) (by omega)]
  by_cases h : a < (l.length : Int)
  · rw [if_pos (by omega), if_pos h]
  · rw [if_neg (by omega), if_neg h]
theorem szAgeS_big (l : List S51) (a : Int) (hl : l.length ≤ 9223372036854775807) (h0 : 0 ≤ a) (h1 : a ≤ 1048576) (h : a < sumAgeS l) : Ev (fun _ => laws_szAgeS.f l a) (-1) := evOf fun _ => by rw [szAgeS_f l a hl h0 h1, if_pos h]
theorem szAgeS_fit (l : List S51) (a : Int) (hl : l.length ≤ 9223372036854775807) (h0 : 0 ≤ a) (h1 : a ≤ 1048576) (h : ¬ a < sumAgeS l) : Ev (fun _ => laws_szAgeS.f l a) (a - sumAgeS l) := evOf fun _ => by rw [szAgeS_f l a hl h0 h1, if_neg h]

theorem toAgeS_ev (l : List S51) (hi : inAgeS l) : Ev (fun k => laws_toAgeS.f k l) (l.map toA) := by
  have h : l.length ≤ 1048576 := hi
  have hl : ∀ i, i ≤ l.length → (fill (fun i => toA (l.getD i z51)) (List.replicate l.length z46) i).length = l.length := fun i hi => by rw [fill_length _ _ _ (by simpa using hi)]; simp
  obtain ⟨K, hk⟩ := evRange0 (σ := List S46) l.length (fun k s i => laws_toAgeS.l0 k l s i) (fun i s => s = fill (fun i => toA (l.getD i z51)) (List.replicate l.length z46) i) (fun _ _ => l.map toA) (List.replicate l.length z46) (fill_zero _ _).symm
    (by
      intro i s hi hs
      subst hs
      refine .inl ⟨_, rfl, rfl, 0, 1, fun k _ => ?_⟩
      have h1 := hl i (by omega)
      simp only [laws_toAgeS.l0]
      rw [if_pos (by omega), if_pos (by omega)]
      simp only [laws_toAge.f, Option.bind_some]
      rw [if_pos (by omega), w64s i (by omega), Int.toNat_natCast, fill_set _ _ _ (by simpa using hi)]
      simp [toA, rd_T51])
    (by
      intro s hs
      subst hs
      refine ⟨0, 1, fun k _ => ?_⟩
      simp only [laws_toAgeS.l0]
      rw [if_neg (by omega)]
      have := fill_all (fun i => toA (l.getD i z51)) (List.replicate l.length z46)
      rw [List.length_replicate] at this
      rw [this, range_map])
  refine ⟨K, fun k hk' => ?_⟩
  simp only [laws_toAgeS.f]
  rw [if_pos (by omega), if_pos (by omega)]
  have e := hk k hk'
  simpa using e

theorem eqAge_refl (x : S46) : laws_eqAge.f x.f0 x.f1 x.f0 x.f1 = some true := by simp [laws_eqAge.f]
theorem eqAgeS_ev (l : List S46) (ho : okAgeS l) : Ev (fun k => laws_eqAgeS.f k l l) true := by
  have h : l.length ≤ 4194304 := ho
  obtain ⟨K, hk⟩ := evRange0 (σ := Unit) l.length (fun k _ i => laws_eqAgeS.l0 k l l i) (fun _ _ => True) (fun _ _ => true) () trivial
    (by
      intro i _ hi _
      refine .inl ⟨(), trivial, rfl, 0, 1, fun k _ => ?_⟩
      simp only [laws_eqAgeS.l0]
      rw [if_pos (by omega), if_pos (by omega), if_pos (by omega), eqAge_refl, w64s i (by omega)]
      rfl)
    (by
      intro _ _
      refine ⟨0, 1, fun k _ => ?_⟩
      simp only [laws_eqAgeS.l0]
      rw [if_neg (by omega)])
  refine ⟨K, fun k hk' => ?_⟩
  simp only [laws_eqAgeS.f]
  rw [if_pos trivial]
  exact hk k hk'

def okIntS (l : List Int) : Prop := l.length ≤ 4194304
def cntIntS (l : List Int) : Int := l.length
theorem cntIntS_nn {l : List Int} (h : okIntS l) : 0 ≤ cntIntS l ∧ cntIntS l ≤ 1073741824 := by unfold okIntS at h; unfold cntIntS; omega
def inIntS (l : List Int) : Prop := l.length ≤ 1048576
theorem ok_of_inIntS {l : List Int} (h : inIntS l) : okIntS l := by unfold inIntS at h; unfold okIntS; omega
def sumIntS (l : List Int) : Int := l.length
theorem sumIntS_nn (l : List Int) : 0 ≤ sumIntS l := by unfold sumIntS; omega
theorem in_of_sumIntS {l : List Int} (h : sumIntS l ≤ 1048576) : inIntS l := by unfold sumIntS at h; unfold inIntS; omega

theorem ageIdx_cases (l : List S46) (a : Int) (j : Nat) : ageIdx l a j = -1 ∨ ∃ i, i < l.length ∧ ageIdx l a j = ((j + i : Nat) : Int) ∧ (l.getD i z46).f0 = a := by
  induction l generalizing j with
  | nil => exact .inl rfl
  | cons x xs ih =>
    unfold ageIdx
    by_cases h : x.f0 = a
    · rw [if_pos h]; exact .inr ⟨0, by simp, by simp, by simpa using h⟩
    · rw [if_neg h]
      rcases ih (j + 1) with e | ⟨i, hi, e, hx⟩
      · exact .inl e
      · exact .inr ⟨i + 1, by simpa using hi, by rw [e]; congr 1; omega, by simpa using hx⟩
theorem impl_AgeAt_ev (l : List S46) (a : Int) (h : okAgeS l) : Ev (fun _ => impl_AgeAt.f l a) (ageIdx l a 0) := evOf fun _ => rfl

theorem spec_AgeAt_ev (l : List S46) (a : Int) (h : okAgeS l) : Ev (fun k => spec_AgeAt.f k l a) (ageIdx l a 0) := by
  have h : l.length ≤ 4194304 := h
  obtain ⟨K, hk⟩ := evRange0 (σ := Unit) l.length (fun k _ i => spec_AgeAt.l0 k l a i) (fun _ _ => True) (fun i _ => ageIdx (l.drop i) a i) () trivial
    (by
      intro i _ hi _
      have hat := ageIdx_at l a i i hi
      have hr : rd_T46 l (i : Int) = l.getD i z46 := by simp [rd_T46]
      generalize l.getD i z46 = y at *
      by_cases h1 : y.f0 = a
      · refine .inr ⟨0, 1, fun k _ => ?_⟩
        simp only [spec_AgeAt.l0, hr]
        rw [if_pos (by omega), if_pos (by omega), if_pos h1, hat, if_pos h1]
      · refine .inl ⟨(), trivial, ?_, 0, 1, fun k _ => ?_⟩
        · rw [hat, if_neg h1]
        · simp only [spec_AgeAt.l0, hr]
          rw [if_pos (by omega), if_pos (by omega), if_neg h1, w64s i (by omega)])
    (by
      intro _ _
      refine ⟨0, 1, fun k _ => ?_⟩
      simp only [spec_AgeAt.l0]
      rw [if_neg (by omega), List.drop_length]
      rfl)
  exact ⟨K, fun k hk' => hk k hk'⟩

def pathOf (l : List S46) : Nat → Int → List Int
  | 0, _ => []
  | n + 1, a => if ageIdx l a 0 < 0 then [] else a :: pathOf l n (l.getD (ageIdx l a 0).toNat z46).f1
theorem pathOf_length (l : List S46) : ∀ n a, (pathOf l n a).length ≤ n
  | 0, _ => Nat.le_refl _
  | n + 1, a => by
    unfold pathOf
    by_cases h : ageIdx l a 0 < 0
    · rw [if_pos h]; exact Nat.zero_le _
    · rw [if_neg h, List.length_cons]
      exact Nat.succ_le_succ (pathOf_length l n _)

theorem spec_PathOf_ev (l : List S46) (a : Int) (ho : okAgeS l) : Ev (fun k => spec_PathOf.f k l a) (pathOf l (l.length + 1) a) := by
  have h : l.length ≤ 4194304 := ho
  have loop : ∀ n out id, out.length + n = l.length + 1 → Ev (fun k => spec_PathOf.l0 k l out (ageIdx l id 0)) (out ++ pathOf l n id) := by
    intro n
    induction n with
    | zero =>
      intro out id hn
      refine evSucc ⟨0, 1, fun k _ => ?_⟩
      simp only [spec_PathOf.l0]
      by_cases q : ageIdx l id 0 ≥ 0
      · rw [if_pos q, if_neg (by omega)]; simp [pathOf]
      · rw [if_neg q]; simp [pathOf]
    | succ n ih =>
      intro out id hn
      rcases ageIdx_cases l id 0 with e | ⟨j, hj, e, hx⟩
      · refine evSucc ⟨0, 1, fun k _ => ?_⟩
        simp only [spec_PathOf.l0, pathOf]
        rw [if_neg (by omega), if_pos (by omega), List.append_nil]
      · rw [Nat.zero_add] at e
        have hr : rd_T46 l (j : Int) = l.getD j z46 := by simp [rd_T46]
        obtain ⟨K1, h1⟩ := spec_AgeAt_ev l (l.getD j z46).f1 ho
        obtain ⟨K2, h2⟩ := ih (out ++ [id]) (l.getD j z46).f1 (by simp; omega)
        refine evSucc ⟨K1 + K2, 1, fun k hk => ?_⟩
        have h2 := h2 k (by omega)
        simp only [spec_PathOf.l0, e, hr, hx, h1 k (by omega), Option.bind_some, pathOf]
        rw [if_pos (by omega), if_pos (by omega), if_pos (by omega), if_pos (by omega), if_pos (by omega), if_neg (by omega), Int.toNat_natCast]
        simpa using h2
  obtain ⟨K1, h1⟩ := spec_AgeAt_ev l a ho
  obtain ⟨K2, h2⟩ := loop (l.length + 1) [] a (by simp)
  refine ⟨K1 + K2, fun k hk => ?_⟩
  have h2 := h2 k (by omega)
  simp only [spec_PathOf.f, h1 k (by omega), Option.bind_some]
  simpa using h2

theorem spec_l7Has_ev (l : List Int) (a : Int) (h : okIntS l) : Ev (fun k => spec_l7Has.f k l a) (l.contains a) := by
  have h : l.length ≤ 4194304 := h
  obtain ⟨K, hk⟩ := evRange0 (σ := Unit) l.length (fun k _ i => spec_l7Has.l0 k l a i) (fun _ _ => True) (fun i _ => (l.drop i).contains a) () trivial
    (by
      intro i _ hi _
      have hd := drop_getD l i 0 hi
      have hr : rd l (i : Int) = l.getD i 0 := by simp [rd]
      generalize l.getD i 0 = y at *
      by_cases h1 : y = a
      · refine .inr ⟨0, 1, fun k _ => ?_⟩
        simp only [spec_l7Has.l0, hr]
        rw [if_pos (by omega), if_pos (by omega), if_pos h1, hd]
        simp [h1]
      · refine .inl ⟨(), trivial, ?_, 0, 1, fun k _ => ?_⟩
        · rw [hd, List.contains_cons, show (a == y) = false by simpa using fun h => h1 h.symm, Bool.false_or]
        · simp only [spec_l7Has.l0, hr]
          rw [if_pos (by omega), if_pos (by omega), if_neg h1, w64s i (by omega)])
    (by
      intro _ _
      refine ⟨0, 1, fun k _ => ?_⟩
      simp only [spec_l7Has.l0]
      rw [if_neg (by omega)]
      simp)
  exact ⟨K, fun k hk' => hk k hk'⟩

theorem spec_IsFrom_ev (l : List S46) (a b : Int) (ho : okAgeS l) (h1 : l.length ≤ 2097152) : Ev (fun k => spec_IsFrom.f k l a b) ((pathOf l (l.length + 1) b).contains a) := by
  have hp := pathOf_length l (l.length + 1) b
  unfold spec_IsFrom.f
  refine Ev.bind (spec_PathOf_ev l b ho) ?_
  refine Ev.bind (spec_l7Has_ev _ a (by unfold okIntS; omega)) ?_
  exact Ev.now _

theorem impl_PathOf_ev (l : List S46) (a : Int) (h : okAgeS l) : Ev (fun k => impl_PathOf.f k l a) (pathOf l (l.length + 1) a) := by
  have h : l.length ≤ 4194304 := h
  obtain ⟨K, hk⟩ := evRange0 (σ := Int × List Int) (l.length + 1) (fun k s i => impl_PathOf.l0 k l s.1 s.2 ((l.length + 1 : Nat) : Int) i) (fun i s => s.2.length ≤ i) (fun i s => s.2 ++ pathOf l (l.length + 1 - i) s.1) (a, []) (by simp)
    (by
      intro i s hi hs
      obtain ⟨id, out⟩ := s
      have hs : out.length ≤ i := hs
      rw [show l.length + 1 - i = (l.length + 1 - (i + 1)) + 1 by omega]
      rcases ageIdx_cases l id 0 with e | ⟨j, hj, e, hx⟩
      · refine .inr ⟨0, 1, fun k _ => ?_⟩
        simp only [impl_PathOf.l0, impl_AgeAt.f, Option.bind_some, pathOf]
        rw [if_pos (by omega), if_pos (by omega), if_pos (by omega), List.append_nil]
      · rw [Nat.zero_add] at e
        have hr : rd_T46 l (j : Int) = l.getD j z46 := by simp [rd_T46]
        refine .inl ⟨((l.getD j z46).f1, out ++ [id]), by simp; omega, ?_, 0, 1, fun k _ => ?_⟩
        · simp only [pathOf]
          rw [if_neg (by omega), e, Int.toNat_natCast, List.append_assoc]; rfl
        · simp only [impl_PathOf.l0, impl_AgeAt.f, Option.bind_some, e, hr]
          rw [if_pos (by omega), if_neg (by omega), if_pos (by omega), if_pos (by omega), if_pos (by omega), w64s i (by omega)])
    (by
      intro s _
      refine ⟨0, 1, fun k _ => ?_⟩
      simp only [impl_PathOf.l0]
      rw [if_neg (by omega), Nat.sub_self]
      simp [pathOf])
  refine ⟨K, fun k hk' => ?_⟩
  have := hk k hk'
  simp only [impl_PathOf.f]
  rw [w64s l.length (by omega)]
  simpa using this

theorem slices_Contains_ev (l : List Int) (a : Int) (h : okIntS l) : Ev (fun k => slices_Contains_int_int.f k l a) (l.contains a) := by
  have h : l.length ≤ 4194304 := h
  have : ∃ r : Int, (decide (r ≥ 0) = l.contains a) ∧ Ev (fun k => slices_Index_int_int.l0 k l a (l.length : Int) 0) r := by
    have := evRangeEx (σ := Unit) l.length (fun k _ i => slices_Index_int_int.l0 k l a (l.length : Int) i) (fun i _ => l.contains a = (l.drop i).contains a) (fun r => decide (r ≥ 0) = l.contains a)
      (by
        intro i _ hi hc
        have hd := drop_getD l i 0 hi
        have hr : rd l (i : Int) = l.getD i 0 := by simp [rd]
        generalize l.getD i 0 = y at *
        by_cases h1 : a = y
        · refine .inr ⟨(i : Int), ?_, 0, 1, fun k _ => ?_⟩
          · rw [hc, hd, decide_eq_true (by omega)]; simp [h1]
          · simp only [slices_Index_int_int.l0, hr]
            rw [if_pos (by omega), if_pos (by omega), if_pos (by omega), if_pos h1]
        · refine .inl ⟨(), ?_, 0, 1, fun k _ => ?_⟩
          · rw [hc, hd, List.contains_cons, show (a == y) = false by simpa using h1, Bool.false_or]
          · simp only [slices_Index_int_int.l0, hr]
            rw [if_pos (by omega), if_pos (by omega), if_pos (by omega), if_neg h1, w64s i (by omega)])
      (by
        intro _ hc
        refine ⟨-1, ?_, 0, 1, fun k _ => ?_⟩
        · rw [hc, List.drop_length]; rfl
        · simp only [slices_Index_int_int.l0]
          rw [if_neg (by omega)]) 0 () (Nat.zero_le _) (by simp)
    exact this
  obtain ⟨r, hr, K, hk⟩ := this
  refine ⟨K, fun k hk' => ?_⟩
  simp only [slices_Contains_int_int.f, slices_Index_int_int.f, hk k hk', Option.bind_some, hr]

theorem impl_IsFrom_ev (l : List S46) (a b : Int) (ho : okAgeS l) (h1 : l.length ≤ 2097152) : Ev (fun k => impl_IsFrom.f k l a b) ((pathOf l (l.length + 1) b).contains a) := by
  have hp := pathOf_length l (l.length + 1) b
  unfold impl_IsFrom.f
  refine Ev.bind (impl_PathOf_ev l b ho) ?_
  refine Ev.bind (slices_Contains_ev _ a (by unfold okIntS; omega)) ?_
  exact Ev.now _

theorem FnExactIsFrom (l0 : List (S51)) (a1 : Int) (a2 : Int) (h0 : (l0.length ≤ 9223372036854775807 ∧ ∀ y0 ∈ l0, ((Lit.int .i64 y0.f0).wf = true ∧ (Lit.int .i64 y0.f1).wf = true))) (h1 : (Lit.int .i64 a1).wf = true) (h2 : (Lit.int .i64 a2).wf = true) : ∃ k, laws_FnExactIsFrom.f k l0 a1 a2 = some true := by
  apply Ev.rounds
  unfold laws_FnExactIsFrom.f
  have u0_0 := sumAgeS_nn l0
  by_cases c0 : 1048576 < sumAgeS l0
  · refine Ev.bind (szAgeS_big l0 _ h0.1 (by omega) (by omega) c0) ?_
    simp only [if_pos (show (-1 : Int) < 0 by decide)]; exact Ev.now _
  refine Ev.bind (szAgeS_fit l0 _ h0.1 (by omega) (by omega) c0) ?_
  simp only [if_neg (show ¬ (1048576 - sumAgeS l0 : Int) < 0 by omega)]
  have i0 : inAgeS l0 := in_of_sumAgeS (by omega)
  have o0 : okAgeS (l0.map toA) := ok_of_inAgeS i0
  repeat' (first
    | exact Ev.now _
    | (refine Ev.bind (toAgeS_ev _ (by assumption)) ?_)
    | (refine Ev.bind (eqAgeS_ev _ (by assumption)) ?_)
    | (refine Ev.bind (impl_IsFrom_ev _ _ _ o0 (by simp only [List.length_map]; unfold sumAgeS at *; omega)) ?_)
    | (refine Ev.bind (spec_IsFrom_ev _ _ _ o0 (by simp only [List.length_map]; unfold sumAgeS at *; omega)) ?_)
    | (simp only [Option.bind_some, ↓reduceIte, bne_self_eq_false, Bool.false_eq_true, Bool.not_true, eq_self])
    | (refine Ev.step (fun _ => rfl) ?_; simp only [laws_FnExactIsFrom.j0]))

end Go.Proofs.Ytpncphhbdkomjaa.Pure
