/- Whatever the arguments: the law answers true; said of the plain functions that the print made of the Go text, with no condition but that the arguments are of their kinds. -/
import Derived.Test.YtkaoiaolbhklnaaPFnExactSetOkx0
import Derived.Test.YtkaoiaolbhklnaaPFnExactSetOkx1
import Derived.Test.YtkaoiaolbhklnaaPFnExactSetOkx2
import Derived.Test.YtkaoiaolbhklnaaPFnExactSetOkx3
import Derived.Test.YtkaoiaolbhklnaaPFnExactSetOkx4
import Derived.Test.YtkaoiaolbhklnaaPFnExactSetOkx5
import Derived.Test.YtkaoiaolbhklnaaCore
namespace Go.Proofs.Ytkaoiaolbhklnaa.Pure
open Go.RowKit Go.Proofs.Ytkaoiaolbhklnaa.PFnExactSetOk Go.Proofs.Ytkaoiaolbhklnaa.Core Go.Proofs.YtkaoiaolbhklnaaW.PrintWords Go.Proofs.YtkaoiaolbhklnaaW.PrintLast
set_option linter.unusedSimpArgs false
set_option linter.unusedVariables false

def toK (x : S24) : S27 := ⟨x.f0, x.f1, x.f2, x.f3, x.f4⟩

def okKeyS (l : List S27) : Prop := l.length ≤ 4194304
def cntKeyS (l : List S27) : Int := 5 * l.length
theorem cntKeyS_nn {l : List S27} (h : okKeyS l) : 0 ≤ cntKeyS l ∧ cntKeyS l ≤ 1073741824 := by unfold okKeyS at h; unfold cntKeyS; omega
def inKeyS (l : List S24) : Prop := l.length ≤ 1048576
def sumKeyS (l : List S24) : Int := l.length
theorem sumKeyS_nn (l : List S24) : 0 ≤ sumKeyS l := by unfold sumKeyS; omega
theorem in_of_sumKeyS {l : List S24} (h : sumKeyS l ≤ 1048576) : inKeyS l := by unfold sumKeyS at h; unfold inKeyS; omega
theorem ok_of_inKeyS {l : List S24} (h : inKeyS l) : okKeyS (l.map toK) := by unfold inKeyS at h; unfold okKeyS; rw [List.length_map]; omega
def goodK (x : S24) : Prop := (Lit.int .i64 x.f0).wf = true ∧ (Lit.int .i64 x.f1).wf = true ∧ (Lit.int .i64 x.f2).wf = true ∧ (Lit.int .i64 x.f3).wf = true ∧ (Lit.int .i64 x.f4).wf = true

theorem szKeyS_f (l : List S24) (a : Int) (hl : l.length ≤ 9223372036854775807) (h0 : 0 ≤ a) (h1 : a ≤ 1048576) : laws_szKeyS.f l a = some (if a < sumKeyS l then -1 else a - sumKeyS l) := by
  unfold laws_szKeyS.f sumKeyS
  rw [w64 (by omega) (by omega)]
  by_cases h : a < (l.length : Int)
  · rw [if_pos (by omega), if_pos h]
  · rw [if_neg (by omega), if_neg h]

theorem toKeyS_ev (l : List S24) (hi : inKeyS l) : Ev (fun k => laws_toKeyS.f k l) (l.map toK) := by
  have h : l.length ≤ 1048576 := hi
  have hl : ∀ i, i ≤ l.length → (fill (fun i => toK (l.getD i z24)) (List.replicate l.length z27) i).length = l.length := fun i hi => by rw [fill_length _ _ _ (by simpa using hi)]; simp
  obtain ⟨K, hk⟩ := evRange0 (σ := List S27) l.length (fun k s i => laws_toKeyS.l0 k l s i) (fun i s => s = fill (fun i => toK (l.getD i z24)) (List.replicate l.length z27) i) (fun _ _ => l.map toK) (List.replicate l.length z27) (fill_zero _ _).symm
    (by
      intro i s hi hs
      subst hs
      refine .inl ⟨_, rfl, rfl, 0, 1, fun k _ => ?_⟩
      have h1 := hl i (by omega)
      simp only [laws_toKeyS.l0]
      rw [if_pos (by omega), if_pos (by omega)]
      simp only [laws_toKey.f, Option.bind_some]
      rw [if_pos (by omega), w64s i (by omega), Int.toNat_natCast, fill_set _ _ _ (by simpa using hi)]
      simp [toK, rd_T24])
    (by
      intro s hs
      subst hs
      refine ⟨0, 1, fun k _ => ?_⟩
      simp only [laws_toKeyS.l0]
      rw [if_neg (by omega)]
      have := fill_all (fun i => toK (l.getD i z24)) (List.replicate l.length z27)
      rw [List.length_replicate] at this
      rw [this, range_map])
  refine ⟨K, fun k hk' => ?_⟩
  simp only [laws_toKeyS.f]
  rw [if_pos (by omega), if_pos (by omega)]
  have e := hk k hk'
  simpa using e

theorem eqKey_refl (x : S27) : laws_eqKey.f x.f0 x.f1 x.f2 x.f3 x.f4 x.f0 x.f1 x.f2 x.f3 x.f4 = some true := by simp [laws_eqKey.f]
theorem eqKey_same (a b c d e : Int) : laws_eqKey.f a b c d e a b c d e = some true := by simp [laws_eqKey.f]
theorem eqKeyS_ev (l : List S27) (ho : okKeyS l) : Ev (fun k => laws_eqKeyS.f k l l) true := by
  have h : l.length ≤ 4194304 := ho
  obtain ⟨K, hk⟩ := evRange0 (σ := Unit) l.length (fun k _ i => laws_eqKeyS.l0 k l l i) (fun _ _ => True) (fun _ _ => true) () trivial
    (by
      intro i _ hi _
      refine .inl ⟨(), trivial, rfl, 0, 1, fun k _ => ?_⟩
      simp only [laws_eqKeyS.l0]
      rw [if_pos (by omega), if_pos (by omega), if_pos (by omega), eqKey_refl, w64s i (by omega)]
      rfl)
    (by
      intro _ _
      refine ⟨0, 1, fun k _ => ?_⟩
      simp only [laws_eqKeyS.l0]
      rw [if_neg (by omega)])
  refine ⟨K, fun k hk' => ?_⟩
  simp only [laws_eqKeyS.f]
  rw [if_pos trivial]
  exact hk k hk'

theorem spec_l1In_f (a b c : Int) : spec_l1In.f a b c = some (decide (b ≤ a ∧ a ≤ c)) := by
  unfold spec_l1In.f
  by_cases h : a ≥ b
  · rw [if_pos h]; congr 1; rw [Bool.eq_iff_iff]; simp; omega
  · rw [if_neg h]; congr 1; rw [Bool.eq_iff_iff]; simp; omega

/-! A key: five numbers. -/
def keyOk5 (a b c d e : Int) : Bool := decide (0 ≤ a ∧ a ≤ 15) && (decide (1 ≤ b ∧ b ≤ 60) && (decide (0 ≤ c ∧ c ≤ 2) && if c = 1 then decide (0 ≤ d ∧ d ≤ 23) && decide (0 ≤ e ∧ e ≤ 999) else decide (d = 0) && decide (e = 0)))

theorem spec_KeyOk_ev (a b c d e : Int) : Ev (fun k => spec_KeyOk.f k a b c d e) (keyOk5 a b c d e) := by
  refine evSucc ⟨0, 1, fun k _ => ?_⟩
  simp only [spec_KeyOk.f, spec_l1In_f, Option.bind_some, spec_KeyOk.j0, keyOk5]
  cases h0 : decide (0 ≤ a ∧ a ≤ 15) <;> cases h1 : decide (1 ≤ b ∧ b ≤ 60) <;> cases h2 : decide (0 ≤ c ∧ c ≤ 2) <;> simp only [Bool.false_and, Bool.true_and, Bool.false_eq_true, if_true, if_false, Bool.not_true, Bool.not_false]
  by_cases h3 : c = 1
  · rw [if_pos h3, if_pos h3]
    cases h4 : decide (0 ≤ d ∧ d ≤ 23) <;> simp only [Bool.false_and, Bool.true_and, Bool.false_eq_true, if_true, if_false]
  · rw [if_neg h3, if_neg h3]
    by_cases h4 : d = 0
    · rw [if_pos h4]; simp [h4]; rw [Bool.eq_iff_iff]; simp
    · rw [if_neg h4]; simp [h4]

/-! What a set of keys is: the model of its functions. -/
def less (a b : S27) : Bool := decide (a.f0 < b.f0 ∨ a.f0 = b.f0 ∧ a.f1 < b.f1)
def same (a b : S27) : Bool := decide (a.f0 = b.f0 ∧ a.f1 = b.f1)
def putGo (k : S27) : List S27 → Bool → List S27
  | [], p => if p then [] else [k]
  | x :: xs, p => (if p || less x k then [] else [k]) ++ ((if same x k then [] else [x]) ++ putGo k xs (p || !less x k))
def setPut (l : List S27) (k : S27) : List S27 := putGo k l false
def mergeSets (a b : List S27) : List S27 := b.foldl setPut a
def dropNone (l : List S27) : List S27 := l.filter fun x => x.f2 != 0
theorem putGo_length (k : S27) : ∀ (l : List S27) (p : Bool), (putGo k l p).length ≤ l.length + 1
  | [], p => by cases p <;> simp [putGo]
  | x :: xs, p => by
    have ih := putGo_length k xs
    have ih1 : p = true → (putGo k xs true).length ≤ xs.length := fun _ => by
      clear ih
      induction xs with
      | nil => simp [putGo]
      | cons y ys ih => simp only [putGo, Bool.true_or, if_true, List.nil_append, List.length_append, List.length_cons]; split <;> simp <;> omega
    simp only [putGo, List.length_append, List.length_cons]
    cases p with
    | true => simp only [Bool.true_or, if_true, List.length_nil]; have := ih1 rfl; split <;> simp <;> omega
    | false =>
      cases hx : less x k with
      | true => simp only [Bool.false_or, if_true, Bool.not_true, List.length_nil]; have := ih false; split <;> simp <;> omega
      | false =>
        simp only [Bool.false_or, Bool.not_false, if_false, Bool.false_eq_true, List.length_cons, List.length_nil]
        have h2 : (putGo k xs true).length ≤ xs.length := by
          clear ih ih1
          induction xs with
          | nil => simp [putGo]
          | cons y ys ih => simp only [putGo, Bool.true_or, if_true, List.nil_append, List.length_append, List.length_cons]; split <;> simp <;> omega
        split <;> simp <;> omega
theorem setPut_length (l : List S27) (k : S27) : (setPut l k).length ≤ l.length + 1 := putGo_length k l false
theorem mergeSets_length (a b : List S27) : (mergeSets a b).length ≤ a.length + b.length := by
  unfold mergeSets
  induction b generalizing a with
  | nil => simp
  | cons x xs ih => simp only [List.foldl_cons, List.length_cons]; have := ih (setPut a x); have := setPut_length a x; omega

theorem spec_LessKey_f (a b : S27) : spec_LessKey.f a.f0 a.f1 a.f2 a.f3 a.f4 b.f0 b.f1 b.f2 b.f3 b.f4 = some (less a b) := by
  unfold spec_LessKey.f less
  split
  · simp [*]
  · simp [*]

def keyOkB (x : S27) : Bool := keyOk5 x.f0 x.f1 x.f2 x.f3 x.f4
def risesAt (l : List S27) (j : Nat) : Bool := less (l.getD (j - 1) z27) (l.getD j z27)
def setOkB (l : List S27) : Bool := allFrom (fun j => keyOkB (l.getD j z27) && (j == 0 || risesAt l j)) l.length 0 && decide (l.length ≤ 60)

theorem spec_l4Rises_ev (l : List S27) (h : l.length ≤ 4194304) : Ev (fun k => spec_l4Rises.f k l) (allFrom (risesAt l) l.length 1) := by
  by_cases h0 : l.length = 0
  · refine evSucc ⟨0, 1, fun k _ => ?_⟩
    simp only [spec_l4Rises.f, spec_l4Rises.l0]
    rw [if_neg (by omega)]
    simp [allFrom, h0]
  have := evAll l.length (fun k i => spec_l4Rises.l0 k l (if i = 0 then 1 else i)) (fun j => j == 0 || risesAt l j) true
    (by
      intro i hi
      by_cases hz : i = 0
      · subst hz
        exact ⟨0, 0, fun k _ => by simp⟩
      have hr : rd_T27 l (i : Int) = l.getD i z27 := by simp [rd_T27]
      have hw := w64s i (by omega)
      have hw1 : wrap64 ((i : Int) - 1) = ((i - 1 : Nat) : Int) := by rw [w64 (by omega) (by omega)]; omega
      have hr1 : rd_T27 l ((i - 1 : Nat) : Int) = l.getD (i - 1) z27 := by simp [rd_T27]
      refine ⟨0, 1, fun k _ => ?_⟩
      rw [if_neg (show ¬ (i : Int) = 0 by omega), if_neg (show ¬ ((i + 1 : Nat) : Int) = 0 by omega)]
      simp only [spec_l4Rises.l0]
      rw [if_pos (by omega), hw1, if_pos (by omega), if_pos (by omega), if_pos (by omega), hr, hr1, spec_LessKey_f, hw]
      simp only [Option.bind_some, beq_eq_false_iff_ne.mpr hz, Bool.false_or]
      rfl)
    (by
      refine ⟨0, 1, fun k _ => ?_⟩
      rw [if_neg (show ¬ (l.length : Int) = 0 by omega)]
      simp only [spec_l4Rises.l0]
      rw [if_neg (by omega)]) 1 (by omega)
  obtain ⟨K, hk⟩ := this
  refine ⟨K, fun k hk' => ?_⟩
  have e := hk k hk'
  simp only [Bool.and_true] at e
  have e2 : allFrom (fun j => j == 0 || risesAt l j) l.length 1 = allFrom (risesAt l) l.length 1 := by
    rw [Bool.eq_iff_iff, allFrom_iff, allFrom_iff]
    constructor
    · intro hh j h1 h2; have := hh j h1 h2; simp only [Bool.or_eq_true, beq_iff_eq] at this; rcases this with h | h; omega; exact h
    · intro hh j h1 h2; simp [hh j h1 h2]
  rw [e2] at e
  rw [← e]
  rfl

theorem spec_SetOk_ev (l : List S27) (h : l.length ≤ 4194304) : Ev (fun k => spec_SetOk.f k l) (setOkB l) := by
  obtain ⟨K0, e0⟩ := spec_l4Rises_ev l h
  have := evAll l.length (fun k i => spec_SetOk.l0 k l i) (fun j => keyOkB (l.getD j z27)) (allFrom (risesAt l) l.length 1 && decide (l.length ≤ 60))
    (by
      intro i hi
      have hr : rd_T27 l (i : Int) = l.getD i z27 := by simp [rd_T27]
      obtain ⟨K, e⟩ := spec_KeyOk_ev (l.getD i z27).f0 (l.getD i z27).f1 (l.getD i z27).f2 (l.getD i z27).f3 (l.getD i z27).f4
      refine ⟨K, 1, fun k hk => ?_⟩
      have e1 : spec_KeyOk.f k (l.getD i z27).f0 (l.getD i z27).f1 (l.getD i z27).f2 (l.getD i z27).f3 (l.getD i z27).f4 = some (keyOkB (l.getD i z27)) := e k hk
      simp only [spec_SetOk.l0, hr, e1, Option.bind_some]
      rw [if_pos (by omega), if_pos (by omega), w64s i (by omega)])
    (by
      refine ⟨K0, 1, fun k hk => ?_⟩
      have e1 : spec_l4Rises.f k l = some (allFrom (risesAt l) l.length 1) := e0 k hk
      simp only [spec_SetOk.l0, e1, Option.bind_some]
      rw [if_neg (by omega)]
      have e2 : decide ((l.length : Int) ≤ 60) = decide (l.length ≤ 60) := by rw [Bool.eq_iff_iff]; simp; omega
      cases allFrom (risesAt l) l.length 1 <;> simp [e2]) 0 (Nat.zero_le _)
  obtain ⟨K, hk⟩ := this
  refine ⟨K, fun k hk' => ?_⟩
  have e := hk k hk'
  simp only [Int.natCast_zero] at e
  show spec_SetOk.l0 k l 0 = _
  have e' : spec_SetOk.l0 k l 0 = some (allFrom (fun j => keyOkB (l.getD j z27)) l.length 0 && (allFrom (risesAt l) l.length 1 && decide (l.length ≤ 60))) := e
  rw [e', setOkB, ← Bool.and_assoc]
  congr 2
  rw [Bool.eq_iff_iff, Bool.and_eq_true, allFrom_iff, allFrom_iff, allFrom_iff]
  constructor
  · rintro ⟨h1, h2⟩ j hj hlt
    rw [h1 j hj hlt, Bool.true_and]
    by_cases hz : j = 0
    · simp [hz]
    · rw [h2 j (by omega) hlt, Bool.or_true]
  · intro h
    refine ⟨fun j hj hlt => ?_, fun j hj hlt => ?_⟩
    · have := h j hj hlt; simp only [Bool.and_eq_true] at this; exact this.1
    · have := h j (by omega) hlt; simp only [Bool.and_eq_true, Bool.or_eq_true, beq_iff_eq] at this; rcases this.2 with h | h; omega; exact h

theorem impl_LessKey_f (a b : S27) : impl_LessKey.f a.f0 a.f1 a.f2 a.f3 a.f4 b.f0 b.f1 b.f2 b.f3 b.f4 = some (less a b) := by
  unfold impl_LessKey.f less
  split
  · simp [*]
  · split
    · simp [*]
    · simp [*]

theorem impl_within_f (a b c : Int) : impl_within.f a b c = some (decide (b ≤ a ∧ a ≤ c)) := by
  unfold impl_within.f
  by_cases h : a ≥ b
  · rw [if_pos h]; congr 1; rw [Bool.eq_iff_iff]; simp; omega
  · rw [if_neg h]; congr 1; rw [Bool.eq_iff_iff]; simp; omega

theorem impl_KeyOk_ev (a b c d e : Int) : Ev (fun k => impl_KeyOk.f k a b c d e) (keyOk5 a b c d e) := by
  refine evSucc ⟨0, 1, fun k _ => ?_⟩
  simp only [impl_KeyOk.f, impl_within_f, Option.bind_some, impl_KeyOk.j0, keyOk5]
  cases h0 : decide (0 ≤ a ∧ a ≤ 15) <;> cases h1 : decide (1 ≤ b ∧ b ≤ 60) <;> cases h2 : decide (0 ≤ c ∧ c ≤ 2) <;> simp only [Bool.false_and, Bool.true_and, Bool.false_eq_true, if_true, if_false, Bool.not_true, Bool.not_false]
  by_cases h3 : c = 1
  · rw [if_pos h3, if_pos h3]
    cases h4 : decide (0 ≤ d ∧ d ≤ 23) <;> simp only [Bool.false_and, Bool.true_and, Bool.false_eq_true, if_true, if_false]
  · rw [if_neg h3, if_neg h3]
    by_cases h4 : d = 0
    · rw [if_pos h4]; simp [h4]; rw [Bool.eq_iff_iff]; simp
    · rw [if_neg h4]; simp [h4]

theorem impl_SetOk_ev (l : List S27) (h : l.length ≤ 4194304) : Ev (fun k => impl_SetOk.f k l) (setOkB l) := by
  have := evAll l.length (fun k i => impl_SetOk.l0 k l l (l.length : Int) i) (fun j => keyOkB (l.getD j z27) && (j == 0 || risesAt l j)) (decide (l.length ≤ 60))
    (by
      intro i hi
      have hr : rd_T27 l (i : Int) = l.getD i z27 := by simp [rd_T27]
      obtain ⟨K, e⟩ := impl_KeyOk_ev (l.getD i z27).f0 (l.getD i z27).f1 (l.getD i z27).f2 (l.getD i z27).f3 (l.getD i z27).f4
      refine ⟨K, 1, fun k hk => ?_⟩
      have e1 : impl_KeyOk.f k (l.getD i z27).f0 (l.getD i z27).f1 (l.getD i z27).f2 (l.getD i z27).f3 (l.getD i z27).f4 = some (keyOkB (l.getD i z27)) := e k hk
      have hra : risesAt l i = less (l.getD (i - 1) z27) (l.getD i z27) := rfl
      simp only [impl_SetOk.l0, hr, e1, Option.bind_some]
      rw [if_pos (by omega), if_pos (by omega), if_pos (by omega)]
      have hw := w64s i (by omega)
      generalize l.getD i z27 = y at *
      cases hq : keyOkB y with
      | false => simp only [Bool.false_and, Bool.false_eq_true, if_false]
      | true =>
        simp only [Bool.true_and, if_true]
        by_cases hz : i = 0
        · subst hz; rw [if_neg (by omega), hw]; rfl
        · have hw1 : wrap64 ((i : Int) - 1) = ((i - 1 : Nat) : Int) := by rw [w64 (by omega) (by omega)]; omega
          have hr1 : rd_T27 l ((i - 1 : Nat) : Int) = l.getD (i - 1) z27 := by simp [rd_T27]
          rw [if_pos (by omega), hw1, if_pos (by omega), if_pos (by omega), hr1, impl_LessKey_f, hw, hra]
          simp only [Option.bind_some, beq_iff_eq, hz, Bool.false_or, beq_eq_false_iff_ne.mpr hz])
    (by
      refine ⟨0, 1, fun k _ => ?_⟩
      simp only [impl_SetOk.l0]
      rw [if_neg (by omega)]
      congr 1; rw [Bool.eq_iff_iff]; simp; omega) 0 (Nat.zero_le _)
  obtain ⟨K, hk⟩ := this
  exact ⟨K, fun k hk' => hk k hk'⟩

theorem FnExactSetOk (l0 : List S24) (h0 : (l0.length ≤ 9223372036854775807 ∧ ∀ x ∈ l0, goodK x)) : ∃ k, laws_FnExactSetOk.f k l0 = some true := by
  apply Ev.rounds
  unfold laws_FnExactSetOk.f
  have u0 := sumKeyS_nn l0
  have z0 := szKeyS_f l0 (1048576) h0.1 (by omega) (by omega)
  by_cases c0 : 1048576 < (sumKeyS l0 : Int)
  · rw [if_pos c0] at z0; simp only [z0, Option.bind_some, if_pos (show (-1 : Int) < 0 by decide)]; exact Ev.now _
  rw [if_neg c0] at z0
  simp only [z0, Option.bind_some, if_neg (show ¬ (1048576 - sumKeyS l0 : Int) < 0 by omega)]
  have i0 : inKeyS l0 := in_of_sumKeyS (by omega)
  have o0 : okKeyS (l0.map toK) := ok_of_inKeyS i0
  have q0 := cntKeyS_nn o0
  repeat' (first
    | exact Ev.now _
    | (refine Ev.bind (toKeyS_ev _ (by assumption)) ?_)
    | (refine Ev.bind (eqKeyS_ev _ (by assumption)) ?_)
    | (refine Ev.bind (markKeyS_ev _ _ (by assumption) (by omega) (by omega)) ?_)
    | (refine Ev.bind (heldKeyS_ev _ _ (by assumption) (by omega) (by omega)) ?_)
    | (refine Ev.bind (spec_SetOk_ev _ o0) ?_)
    | (refine Ev.bind (impl_SetOk_ev _ o0) ?_)
    | (simp only [Option.bind_some, ↓reduceIte, bne_self_eq_false, Bool.false_eq_true, Bool.not_true, ])
    | (refine Ev.step (fun _ => rfl) ?_; simp only [laws_FnExactSetOk.j0]))

end Go.Proofs.Ytkaoiaolbhklnaa.Pure
