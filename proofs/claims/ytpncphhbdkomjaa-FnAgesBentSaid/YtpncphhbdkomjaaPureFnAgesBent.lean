/- What the functions that the law reaches answer, as plain functions of numbers and lists; each says its conditions itself. -/
import Derived.Test.YtpncphhbdkomjaaMFnAgesBentx0
import Derived.Test.YtpncphhbdkomjaaMFnAgesBentx1
import Derived.Test.YtpncphhbdkomjaaMFnAgesBentx2
import Derived.Test.YtpncphhbdkomjaaMFnAgesBentx3
import Derived.Test.YtpncphhbdkomjaaMFnAgesBentx4
import Derived.Test.YtpncphhbdkomjaaMFnAgesBentx5
import Derived.Test.YtpncphhbdkomjaaMFnAgesBentx6
import Derived.Test.YtpncphhbdkomjaaMFnAgesBentx7
import Derived.Test.YtpncphhbdkomjaaMFnAgesBentx8
import Derived.Test.YtpncphhbdkomjaaMFnAgesBentx9
import Derived.Test.YtpncphhbdkomjaaCore
import Derived.Test.YtpncphhbdkomjaaMarks
namespace Go.Proofs.Ytpncphhbdkomjaa.Pure
open Go.RowKit Go.Proofs.Ytpncphhbdkomjaa.PFnAgesBent Go.Proofs.Ytpncphhbdkomjaa.Core Go.Proofs.YtpncphhbdkomjaaW.PrintWords Go.Proofs.YtpncphhbdkomjaaW.PrintLast Go.Proofs.YtpncphhbdkomjaaW.PrintMore
set_option linter.unusedSimpArgs false
set_option linter.unusedVariables false

def okAgeS (l : List S46) : Prop := l.length ≤ 4194304

def okIntS (l : List Int) : Prop := l.length ≤ 4194304
def cntIntS (l : List Int) : Int := l.length
theorem cntIntS_nn {l : List Int} (h : okIntS l) : 0 ≤ cntIntS l ∧ cntIntS l ≤ 1073741824 := by unfold okIntS at h; unfold cntIntS; omega
def inIntS (l : List Int) : Prop := l.length ≤ 1048576
theorem ok_of_inIntS {l : List Int} (h : inIntS l) : okIntS l := by unfold inIntS at h; unfold okIntS; omega
def sumIntS (l : List Int) : Int := l.length
theorem sumIntS_nn (l : List Int) : 0 ≤ sumIntS l := by unfold sumIntS; omega
theorem in_of_sumIntS {l : List Int} (h : sumIntS l ≤ 1048576) : inIntS l := by unfold sumIntS at h; unfold inIntS; omega

theorem ageIdx_cases (l : List S46) (a : Int) (j : Nat) : ageIdx l a j = -1 ∨ ∃ i, i < l.length ∧ ageIdx l a j = ((j + i : Nat) : Int) ∧ (l.getD i z46).f0 = a := by
  induction l generalizing j with
  | nil => exact .inl rfl
  | cons x xs ih =>
    unfold ageIdx
    by_cases h : x.f0 = a
    · rw [if_pos h]; exact .inr ⟨0, by simp, by simp, by simpa using h⟩
    · rw [if_neg h]
      rcases ih (j + 1) with e | ⟨i, hi, e, hx⟩
      · exact .inl e
      · exact .inr ⟨i + 1, by simpa using hi, by rw [e]; congr 1; omega, by simpa using hx⟩
theorem impl_AgeAt_ev (l : List S46) (a : Int) (h : okAgeS l) : Ev (fun _ => impl_AgeAt.f l a) (ageIdx l a 0) := evOf fun _ => rfl

theorem spec_AgeAt_ev (l : List S46) (a : Int) (h : okAgeS l) : Ev (fun k => spec_AgeAt.f k l a) (ageIdx l a 0) := by
  have h : l.length ≤ 4194304 := h
  obtain ⟨K, hk⟩ := evRange0 (σ := Unit) l.length (fun k _ i => spec_AgeAt.l0 k l a i) (fun _ _ => True) (fun i _ => ageIdx (l.drop i) a i) () trivial
    (by
      intro i _ hi _
      have hat := ageIdx_at l a i i hi
      have hr : rd_T46 l (i : Int) = l.getD i z46 := by simp [rd_T46]
      generalize l.getD i z46 = y at *
      by_cases h1 : y.f0 = a
      · refine .inr ⟨0, 1, fun k _ => ?_⟩
        simp only [spec_AgeAt.l0, hr]
        rw [if_pos (by omega), if_pos (by omega), if_pos h1, hat, if_pos h1]
      · refine .inl ⟨(), trivial, ?_, 0, 1, fun k _ => ?_⟩
        · rw [hat, if_neg h1]
        · simp only [spec_AgeAt.l0, hr]
          rw [if_pos (by omega), if_pos (by omega), if_neg h1, w64s i (by omega)])
    (by
      intro _ _
      refine ⟨0, 1, fun k _ => ?_⟩
      simp only [spec_AgeAt.l0]
      rw [if_neg (by omega), List.drop_length]
      rfl)
  exact ⟨K, fun k hk' => hk k hk'⟩

theorem spec_l1In_f (a b c : Int) : spec_l1In.f a b c = some (decide (b ≤ a ∧ a ≤ c)) := by
  unfold spec_l1In.f
  by_cases h : a ≥ b
  · rw [if_pos h]; congr 1; rw [Bool.eq_iff_iff]; simp; omega
  · rw [if_neg h]; congr 1; rw [Bool.eq_iff_iff]; simp; omega

def ageOkAt (l : List S46) (i : Nat) : Bool := decide (1 ≤ (l.getD i z46).f0 ∧ (l.getD i z46).f0 ≤ 60) && (decide (¬ ((i : Int) > 0 ∧ (l.getD (i - 1) z46).f0 ≥ (l.getD i z46).f0)) && decide ((l.getD i z46).f1 = 0 ∨ ¬ ageIdx (l.take i) (l.getD i z46).f1 0 < 0))
def agesOkB (l : List S46) : Bool := allFrom (ageOkAt l) l.length 0 && decide ((l.length : Int) ≤ 16)
theorem ageOkAt_of (l : List S46) (i : Nat) (b : Bool) (h : b = true ↔ (1 ≤ (l.getD i z46).f0 ∧ (l.getD i z46).f0 ≤ 60) ∧ ¬ ((i : Int) > 0 ∧ (l.getD (i - 1) z46).f0 ≥ (l.getD i z46).f0) ∧ ((l.getD i z46).f1 = 0 ∨ ¬ ageIdx (l.take i) (l.getD i z46).f1 0 < 0)) : ageOkAt l i = b := by
  rw [Bool.eq_iff_iff, h]
  simp only [ageOkAt, Bool.and_eq_true, decide_eq_true_eq]
theorem rdAge_prev (l : List S46) (i : Nat) (h0 : (i : Int) > 0) (h : i ≤ 4194304) : rd_T46 l (wrap64 ((i : Int) - 1)) = l.getD (i - 1) z46 := by
  rw [w64 (x := (i : Int) - 1) (by omega) (by omega)]
  unfold rd_T46
  congr 1
  omega

theorem spec_AgesOk_ev (l : List S46) (h : okAgeS l) : Ev (fun k => spec_AgesOk.f k l) (agesOkB l) := by
  have ho := h
  have h : l.length ≤ 4194304 := h
  refine evAll l.length (fun k i => spec_AgesOk.l0 k l i) (ageOkAt l) (decide ((l.length : Int) ≤ 16)) ?_ ?_ 0 (Nat.zero_le _)
  · intro i hi
    have hr : rd_T46 l (i : Int) = l.getD i z46 := by simp [rd_T46]
    obtain ⟨K, hK⟩ := spec_AgeAt_ev (l.take i) (l.getD i z46).f1 (by unfold okAgeS; rw [List.length_take]; omega)
    refine ⟨K, 2, fun k hk' => ?_⟩
    have hk := w64s i (by omega)
    have tail : ((1 ≤ (l.getD i z46).f0 ∧ (l.getD i z46).f0 ≤ 60) ∧ ¬ ((i : Int) > 0 ∧ (l.getD (i - 1) z46).f0 ≥ (l.getD i z46).f0)) →
        spec_AgesOk.j1 (k + 1) l i false = if ageOkAt l i = true then spec_AgesOk.l0 k l ((i + 1 : Nat) : Int) else some false := by
      intro hq
      simp only [spec_AgesOk.j1, hr, hk, Int.toNat_natCast, hK k hk', Option.bind_some]
      rw [if_neg (by decide), if_pos (by omega), if_pos (by omega), if_pos (show (i : Int) ≤ (l.length : Int) by omega)]
      by_cases q3 : (l.getD i z46).f1 = 0
      · rw [if_pos q3, ageOkAt_of l i true (by simp only [true_iff]; exact ⟨hq.1, hq.2, .inl q3⟩)]; simp
      · rw [if_neg q3]
        by_cases q4 : ageIdx (l.take i) (l.getD i z46).f1 0 < 0
        · rw [if_pos q4, ageOkAt_of l i false (by simp only [Bool.false_eq_true, false_iff]; exact fun hh => hh.2.2.elim q3 (fun h' => h' q4))]; simp
        · rw [if_neg q4, ageOkAt_of l i true (by simp only [true_iff]; exact ⟨hq.1, hq.2, .inr q4⟩)]; simp
    have stop : spec_AgesOk.j1 (k + 1) l i true = some false := by simp [spec_AgesOk.j1]
    show spec_AgesOk.l0 (k + 1 + 1) l i = _
    rw [spec_AgesOk.l0]
    simp only [hr, spec_l1In_f, Option.bind_some]
    rw [if_pos (by omega), if_pos (by omega)]
    by_cases q0 : 1 ≤ (l.getD i z46).f0 ∧ (l.getD i z46).f0 ≤ 60
    · rw [decide_eq_true q0, if_pos rfl]
      by_cases q1 : (i : Int) > 0
      · rw [if_pos q1, rdAge_prev l i q1 (by omega), w64 (x := (i : Int) - 1) (by omega) (by omega), if_pos (by omega), if_pos (by omega)]
        by_cases q2 : (l.getD (i - 1) z46).f0 ≥ (l.getD i z46).f0
        · rw [decide_eq_true q2, stop, ageOkAt_of l i false (by simp only [Bool.false_eq_true, false_iff]; exact fun hh => hh.2.1 ⟨q1, q2⟩)]; simp
        · rw [decide_eq_false q2]; exact tail ⟨q0, fun hh => q2 hh.2⟩
      · rw [if_neg q1]; exact tail ⟨q0, fun hh => q1 hh.1⟩
    · rw [decide_eq_false q0, if_neg (by decide), stop, ageOkAt_of l i false (by simp only [Bool.false_eq_true, false_iff]; exact fun hh => q0 hh.1)]; simp
  · refine ⟨0, 1, fun k _ => ?_⟩
    simp only [spec_AgesOk.l0]
    rw [if_neg (by omega)]

theorem impl_within_f (a b c : Int) : impl_within.f a b c = some (decide (b ≤ a ∧ a ≤ c)) := by
  unfold impl_within.f
  by_cases h : a ≥ b
  · rw [if_pos h]; congr 1; rw [Bool.eq_iff_iff]; simp; omega
  · rw [if_neg h]; congr 1; rw [Bool.eq_iff_iff]; simp; omega

theorem impl_AgesOk_ev (l : List S46) (h : okAgeS l) : Ev (fun k => impl_AgesOk.f k l) (agesOkB l) := by
  have h : l.length ≤ 4194304 := h
  refine evAll l.length (fun k i => impl_AgesOk.l0 k l l (l.length : Int) i) (ageOkAt l) (decide ((l.length : Int) ≤ 16)) ?_ ?_ 0 (Nat.zero_le _)
  · intro i hi
    have hr : rd_T46 l (i : Int) = l.getD i z46 := by simp [rd_T46]
    refine ⟨0, 1, fun k _ => ?_⟩
    have hk := w64s i (by omega)
    have tail : ((1 ≤ (l.getD i z46).f0 ∧ (l.getD i z46).f0 ≤ 60) ∧ ¬ ((i : Int) > 0 ∧ (l.getD (i - 1) z46).f0 ≥ (l.getD i z46).f0)) →
        (if (l.getD i z46).f1 = 0 then impl_AgesOk.l0 k l l (l.length : Int) (wrap64 ((i : Int) + 1)) else if (i : Int) ≤ (l.length : Int) then (impl_AgeAt.f (l.take (i : Int).toNat) (l.getD i z46).f1).bind fun t => if t < 0 then some false else impl_AgesOk.l0 k l l (l.length : Int) (wrap64 ((i : Int) + 1)) else none) = if ageOkAt l i = true then impl_AgesOk.l0 k l l (l.length : Int) ((i + 1 : Nat) : Int) else some false := by
      intro hq
      rw [hk, if_pos (show (i : Int) ≤ (l.length : Int) by omega), Int.toNat_natCast]
      simp only [impl_AgeAt.f, Option.bind_some]
      by_cases q3 : (l.getD i z46).f1 = 0
      · rw [if_pos q3, ageOkAt_of l i true (by simp only [true_iff]; exact ⟨hq.1, hq.2, .inl q3⟩)]; simp
      · rw [if_neg q3]
        by_cases q4 : ageIdx (l.take i) (l.getD i z46).f1 0 < 0
        · rw [if_pos q4, ageOkAt_of l i false (by simp only [Bool.false_eq_true, false_iff]; exact fun hh => hh.2.2.elim q3 (fun h' => h' q4))]; simp
        · rw [if_neg q4, ageOkAt_of l i true (by simp only [true_iff]; exact ⟨hq.1, hq.2, .inr q4⟩)]; simp
    simp only [impl_AgesOk.l0, hr, impl_within_f, Option.bind_some]
    rw [if_pos (by omega), if_pos (by omega), if_pos (by omega)]
    by_cases q0 : 1 ≤ (l.getD i z46).f0 ∧ (l.getD i z46).f0 ≤ 60
    · rw [decide_eq_true q0, if_pos rfl]
      by_cases q1 : (i : Int) > 0
      · rw [if_pos q1, rdAge_prev l i q1 (by omega), w64 (x := (i : Int) - 1) (by omega) (by omega), if_pos (by omega), if_pos (by omega)]
        by_cases q2 : (l.getD (i - 1) z46).f0 ≥ (l.getD i z46).f0
        · rw [if_pos q2, ageOkAt_of l i false (by simp only [Bool.false_eq_true, false_iff]; exact fun hh => hh.2.1 ⟨q1, q2⟩)]; simp
        · rw [if_neg q2]; exact tail ⟨q0, fun hh => q2 hh.2⟩
      · rw [if_neg q1]; exact tail ⟨q0, fun hh => q1 hh.1⟩
    · rw [decide_eq_false q0, if_neg (by decide), ageOkAt_of l i false (by simp only [Bool.false_eq_true, false_iff]; exact fun hh => q0 hh.1)]; simp
  · refine ⟨0, 1, fun k _ => ?_⟩
    simp only [impl_AgesOk.l0]
    rw [if_neg (by omega)]

def kidsOf (l : List S46) (a : Int) : List Int := (l.filter fun x => decide (x.f1 = a) && !decide (a = 0)).map fun x => x.f0
theorem kidsOf_length (l : List S46) (a : Int) : (kidsOf l a).length ≤ l.length := by
  unfold kidsOf
  rw [List.length_map]
  exact List.length_filter_le _ _

theorem spec_KidsOf_ev (l : List S46) (a : Int) (h : l.length ≤ 4194304) : Ev (fun k => spec_KidsOf.f k l a) (kidsOf l a) := by
  obtain ⟨K, hk⟩ := evRange0 (σ := List Int) l.length (fun k s i => spec_KidsOf.l0 k l a s i) (fun i s => s.length ≤ i) (fun i s => s ++ kidsOf (l.drop i) a) [] (by simp)
    (by
      intro i s hi hs
      have hd := drop_getD l i z46 hi
      have hr : rd_T46 l (i : Int) = l.getD i z46 := by simp [rd_T46]
      generalize l.getD i z46 = y at *
      by_cases h1 : y.f1 = a ∧ a ≠ 0
      · refine .inl ⟨s ++ [y.f0], by simp; omega, ?_, 0, 1, fun k _ => ?_⟩
        · rw [hd, kidsOf, kidsOf, List.filter_cons_of_pos (by simp [h1]), List.map_cons, List.append_assoc]; rfl
        · simp only [spec_KidsOf.l0, hr]
          rw [if_pos (by omega), if_pos (by omega), if_pos h1.1, if_neg h1.2, if_pos (by omega), w64s i (by omega)]
      · refine .inl ⟨s, by omega, ?_, 0, 1, fun k _ => ?_⟩
        · rw [hd, kidsOf, kidsOf, List.filter_cons_of_neg (by simpa using h1)]
        · simp only [spec_KidsOf.l0, hr]
          rw [if_pos (by omega), if_pos (by omega), w64s i (by omega)]
          by_cases h2 : y.f1 = a
          · rw [if_pos h2, if_pos (by omega)]
          · rw [if_neg h2])
    (by
      intro s _
      refine ⟨0, 1, fun k _ => ?_⟩
      simp only [spec_KidsOf.l0]
      rw [if_neg (by omega)]
      simp [kidsOf])
  exact ⟨K, fun k hk' => hk k hk'⟩

theorem impl_KidsOf_ev (l : List S46) (a : Int) (h : l.length ≤ 4194304) : Ev (fun k => impl_KidsOf.f k l a) (kidsOf l a) := by
  by_cases h0 : a = 0
  · refine evOf fun k => ?_
    simp only [impl_KidsOf.f, Option.bind_some]
    rw [if_pos h0]
    simp [kidsOf, h0]
  obtain ⟨K, hk⟩ := evRange0 (σ := List Int) l.length (fun k s i => impl_KidsOf.l0 k a s l (l.length : Int) i) (fun i s => s.length ≤ i) (fun i s => s ++ kidsOf (l.drop i) a) [] (by simp)
    (by
      intro i s hi hs
      have hd := drop_getD l i z46 hi
      have hr : rd_T46 l (i : Int) = l.getD i z46 := by simp [rd_T46]
      generalize l.getD i z46 = y at *
      by_cases h1 : y.f1 = a
      · refine .inl ⟨s ++ [y.f0], by simp; omega, ?_, 0, 1, fun k _ => ?_⟩
        · rw [hd, kidsOf, kidsOf, List.filter_cons_of_pos (by simp [h1, h0]), List.map_cons, List.append_assoc]; rfl
        · simp only [impl_KidsOf.l0, hr]
          rw [if_pos (by omega), if_pos (by omega), if_pos (by omega), if_pos h1, if_pos (by omega), w64s i (by omega)]
      · refine .inl ⟨s, by omega, ?_, 0, 1, fun k _ => ?_⟩
        · rw [hd, kidsOf, kidsOf, List.filter_cons_of_neg (by simp [h1])]
        · simp only [impl_KidsOf.l0, hr]
          rw [if_pos (by omega), if_pos (by omega), if_pos (by omega), if_neg h1, w64s i (by omega)])
    (by
      intro s _
      refine ⟨0, 1, fun k _ => ?_⟩
      simp only [impl_KidsOf.l0]
      rw [if_neg (by omega)]
      simp [kidsOf])
  refine ⟨K, fun k hk' => ?_⟩
  simp only [impl_KidsOf.f, Option.bind_some]
  rw [if_neg h0]
  exact hk k hk'

def pathOf (l : List S46) : Nat → Int → List Int
  | 0, _ => []
  | n + 1, a => if ageIdx l a 0 < 0 then [] else a :: pathOf l n (l.getD (ageIdx l a 0).toNat z46).f1
theorem pathOf_length (l : List S46) : ∀ n a, (pathOf l n a).length ≤ n
  | 0, _ => Nat.le_refl _
  | n + 1, a => by
    unfold pathOf
    by_cases h : ageIdx l a 0 < 0
    · rw [if_pos h]; exact Nat.zero_le _
    · rw [if_neg h, List.length_cons]
      exact Nat.succ_le_succ (pathOf_length l n _)

theorem spec_PathOf_ev (l : List S46) (a : Int) (ho : okAgeS l) : Ev (fun k => spec_PathOf.f k l a) (pathOf l (l.length + 1) a) := by
  have h : l.length ≤ 4194304 := ho
  have loop : ∀ n out id, out.length + n = l.length + 1 → Ev (fun k => spec_PathOf.l0 k l out (ageIdx l id 0)) (out ++ pathOf l n id) := by
    intro n
    induction n with
    | zero =>
      intro out id hn
      refine evSucc ⟨0, 1, fun k _ => ?_⟩
      simp only [spec_PathOf.l0]
      by_cases q : ageIdx l id 0 ≥ 0
      · rw [if_pos q, if_neg (by omega)]; simp [pathOf]
      · rw [if_neg q]; simp [pathOf]
    | succ n ih =>
      intro out id hn
      rcases ageIdx_cases l id 0 with e | ⟨j, hj, e, hx⟩
      · refine evSucc ⟨0, 1, fun k _ => ?_⟩
        simp only [spec_PathOf.l0, pathOf]
        rw [if_neg (by omega), if_pos (by omega), List.append_nil]
      · rw [Nat.zero_add] at e
        have hr : rd_T46 l (j : Int) = l.getD j z46 := by simp [rd_T46]
        obtain ⟨K1, h1⟩ := spec_AgeAt_ev l (l.getD j z46).f1 ho
        obtain ⟨K2, h2⟩ := ih (out ++ [id]) (l.getD j z46).f1 (by simp; omega)
        refine evSucc ⟨K1 + K2, 1, fun k hk => ?_⟩
        have h2 := h2 k (by omega)
        simp only [spec_PathOf.l0, e, hr, hx, h1 k (by omega), Option.bind_some, pathOf]
        rw [if_pos (by omega), if_pos (by omega), if_pos (by omega), if_pos (by omega), if_pos (by omega), if_neg (by omega), Int.toNat_natCast]
        simpa using h2
  obtain ⟨K1, h1⟩ := spec_AgeAt_ev l a ho
  obtain ⟨K2, h2⟩ := loop (l.length + 1) [] a (by simp)
  refine ⟨K1 + K2, fun k hk => ?_⟩
  have h2 := h2 k (by omega)
  simp only [spec_PathOf.f, h1 k (by omega), Option.bind_some]
  simpa using h2

theorem spec_l7Has_ev (l : List Int) (a : Int) (h : okIntS l) : Ev (fun k => spec_l7Has.f k l a) (l.contains a) := by
  have h : l.length ≤ 4194304 := h
  obtain ⟨K, hk⟩ := evRange0 (σ := Unit) l.length (fun k _ i => spec_l7Has.l0 k l a i) (fun _ _ => True) (fun i _ => (l.drop i).contains a) () trivial
    (by
      intro i _ hi _
      have hd := drop_getD l i 0 hi
      have hr : rd l (i : Int) = l.getD i 0 := by simp [rd]
      generalize l.getD i 0 = y at *
      by_cases h1 : y = a
      · refine .inr ⟨0, 1, fun k _ => ?_⟩
        simp only [spec_l7Has.l0, hr]
        rw [if_pos (by omega), if_pos (by omega), if_pos h1, hd]
        simp [h1]
      · refine .inl ⟨(), trivial, ?_, 0, 1, fun k _ => ?_⟩
        · rw [hd, List.contains_cons, show (a == y) = false by simpa using fun h => h1 h.symm, Bool.false_or]
        · simp only [spec_l7Has.l0, hr]
          rw [if_pos (by omega), if_pos (by omega), if_neg h1, w64s i (by omega)])
    (by
      intro _ _
      refine ⟨0, 1, fun k _ => ?_⟩
      simp only [spec_l7Has.l0]
      rw [if_neg (by omega)]
      simp)
  exact ⟨K, fun k hk' => hk k hk'⟩

theorem spec_IsFrom_ev (l : List S46) (a b : Int) (ho : okAgeS l) (h1 : l.length ≤ 2097152) : Ev (fun k => spec_IsFrom.f k l a b) ((pathOf l (l.length + 1) b).contains a) := by
  have hp := pathOf_length l (l.length + 1) b
  unfold spec_IsFrom.f
  refine Ev.bind (spec_PathOf_ev l b ho) ?_
  refine Ev.bind (spec_l7Has_ev _ a (by unfold okIntS; omega)) ?_
  exact Ev.now _

theorem impl_PathOf_ev (l : List S46) (a : Int) (h : okAgeS l) : Ev (fun k => impl_PathOf.f k l a) (pathOf l (l.length + 1) a) := by
  have h : l.length ≤ 4194304 := h
  obtain ⟨K, hk⟩ := evRange0 (σ := Int × List Int) (l.length + 1) (fun k s i => impl_PathOf.l0 k l s.1 s.2 ((l.length + 1 : Nat) : Int) i) (fun i s => s.2.length ≤ i) (fun i s => s.2 ++ pathOf l (l.length + 1 - i) s.1) (a, []) (by simp)
    (by
      intro i s hi hs
      obtain ⟨id, out⟩ := s
      have hs : out.length ≤ i := hs
      rw [show l.length + 1 - i = (l.length + 1 - (i + 1)) + 1 by omega]
      rcases ageIdx_cases l id 0 with e | ⟨j, hj, e, hx⟩
      · refine .inr ⟨0, 1, fun k _ => ?_⟩
        simp only [impl_PathOf.l0, impl_AgeAt.f, Option.bind_some, pathOf]
        rw [if_pos (by omega), if_pos (by omega), if_pos (by omega), List.append_nil]
      · rw [Nat.zero_add] at e
        have hr : rd_T46 l (j : Int) = l.getD j z46 := by simp [rd_T46]
        refine .inl ⟨((l.getD j z46).f1, out ++ [id]), by simp; omega, ?_, 0, 1, fun k _ => ?_⟩
        · simp only [pathOf]
          rw [if_neg (by omega), e, Int.toNat_natCast, List.append_assoc]; rfl
        · simp only [impl_PathOf.l0, impl_AgeAt.f, Option.bind_some, e, hr]
          rw [if_pos (by omega), if_neg (by omega), if_pos (by omega), if_pos (by omega), if_pos (by omega), w64s i (by omega)])
    (by
      intro s _
      refine ⟨0, 1, fun k _ => ?_⟩
      simp only [impl_PathOf.l0]
      rw [if_neg (by omega), Nat.sub_self]
      simp [pathOf])
  refine ⟨K, fun k hk' => ?_⟩
  have := hk k hk'
  simp only [impl_PathOf.f]
  rw [w64s l.length (by omega)]
  simpa using this

theorem slices_Contains_ev (l : List Int) (a : Int) (h : okIntS l) : Ev (fun k => slices_Contains_int_int.f k l a) (l.contains a) := by
  have h : l.length ≤ 4194304 := h
  have : ∃ r : Int, (decide (r ≥ 0) = l.contains a) ∧ Ev (fun k => slices_Index_int_int.l0 k l a (l.length : Int) 0) r := by
    have := evRangeEx (σ := Unit) l.length (fun k _ i => slices_Index_int_int.l0 k l a (l.length : Int) i) (fun i _ => l.contains a = (l.drop i).contains a) (fun r => decide (r ≥ 0) = l.contains a)
      (by
        intro i _ hi hc
        have hd := drop_getD l i 0 hi
        have hr : rd l (i : Int) = l.getD i 0 := by simp [rd]
        generalize l.getD i 0 = y at *
        by_cases h1 : a = y
        · refine .inr ⟨(i : Int), ?_, 0, 1, fun k _ => ?_⟩
          · rw [hc, hd, decide_eq_true (by omega)]; simp [h1]
          · simp only [slices_Index_int_int.l0, hr]
            rw [if_pos (by omega), if_pos (by omega), if_pos (by omega), if_pos h1]
        · refine .inl ⟨(), ?_, 0, 1, fun k _ => ?_⟩
          · rw [hc, hd, List.contains_cons, show (a == y) = false by simpa using h1, Bool.false_or]
          · simp only [slices_Index_int_int.l0, hr]
            rw [if_pos (by omega), if_pos (by omega), if_pos (by omega), if_neg h1, w64s i (by omega)])
      (by
        intro _ hc
        refine ⟨-1, ?_, 0, 1, fun k _ => ?_⟩
        · rw [hc, List.drop_length]; rfl
        · simp only [slices_Index_int_int.l0]
          rw [if_neg (by omega)]) 0 () (Nat.zero_le _) (by simp)
    exact this
  obtain ⟨r, hr, K, hk⟩ := this
  refine ⟨K, fun k hk' => ?_⟩
  simp only [slices_Contains_int_int.f, slices_Index_int_int.f, hk k hk', Option.bind_some, hr]

theorem impl_IsFrom_ev (l : List S46) (a b : Int) (ho : okAgeS l) (h1 : l.length ≤ 2097152) : Ev (fun k => impl_IsFrom.f k l a b) ((pathOf l (l.length + 1) b).contains a) := by
  have hp := pathOf_length l (l.length + 1) b
  unfold impl_IsFrom.f
  refine Ev.bind (impl_PathOf_ev l b ho) ?_
  refine Ev.bind (slices_Contains_ev _ a (by unfold okIntS; omega)) ?_
  exact Ev.now _

def cutFix (id frm : Int) (x : S46) : S46 := if x.f1 = id then ⟨x.f0, frm⟩ else x
def cutTail (id frm : Int) (m : Nat) (l : List S46) (i : Nat) : List S46 := if i ≤ m then ((l.map (cutFix id frm)).drop i).eraseIdx (m - i) else (l.map (cutFix id frm)).drop i
def cutAge (l : List S46) (id : Int) : List S46 × Bool := if ageIdx l id 0 < 0 then (l, false) else if agesOkB l = true then ((l.map (cutFix id (l.getD (ageIdx l id 0).toNat z46).f1)).eraseIdx (ageIdx l id 0).toNat, true) else (l, false)
theorem cutAge_len (l : List S46) (id : Int) (h : okAgeS l) : okAgeS (cutAge l id).1 := by
  have h : l.length ≤ 4194304 := h
  unfold cutAge okAgeS
  split
  · exact h
  · split
    · simp only
      have := List.length_eraseIdx_le (l.map (cutFix id (l.getD (ageIdx l id 0).toNat z46).f1)) (ageIdx l id 0).toNat
      rw [List.length_map] at this
      omega
    · exact h
theorem cutMap_drop (id frm : Int) (l : List S46) (i : Nat) (h : i < l.length) : (l.map (cutFix id frm)).drop i = cutFix id frm (l.getD i z46) :: (l.map (cutFix id frm)).drop (i + 1) := by
  rw [← List.map_drop, drop_getD l i z46 h, List.map_cons, List.map_drop]
theorem cutTail_at (id frm : Int) (m : Nat) (l : List S46) (i : Nat) (h : i < l.length) : cutTail id frm m l i = (if i = m then [] else [cutFix id frm (l.getD i z46)]) ++ cutTail id frm m l (i + 1) := by
  unfold cutTail
  rw [cutMap_drop id frm l i h]
  by_cases q : i = m
  · subst q
    rw [if_pos (Nat.le_refl _), if_pos rfl, if_neg (by omega), Nat.sub_self]
    rfl
  · rw [if_neg q]
    by_cases q2 : i ≤ m
    · rw [if_pos q2, if_pos (by omega), show m - i = (m - (i + 1)) + 1 by omega]
      rfl
    · rw [if_neg q2, if_neg (by omega)]
      rfl
theorem ageIdx_at0 (l : List S46) (a : Int) (h : ¬ ageIdx l a 0 < 0) : ∃ m, ageIdx l a 0 = ((m : Nat) : Int) ∧ m < l.length := by
  rcases ageIdx_cases l a 0 with e | ⟨i, hi, e, _⟩
  · omega
  · exact ⟨i, by rw [e]; omega, hi⟩

theorem spec_CutAge_ev (l : List S46) (id : Int) (h : okAgeS l) : Ev (fun k => spec_CutAge.f k l id) (cutAge l id) := by
  have hl : l.length ≤ 4194304 := h
  obtain ⟨K1, h1⟩ := spec_AgeAt_ev l id h
  obtain ⟨K2, h2⟩ := spec_AgesOk_ev l h
  by_cases q : ageIdx l id 0 < 0
  · refine ⟨K1 + 1, fun k hk => ?_⟩
    have a1 := h1 k (by omega)
    simp only at a1
    obtain ⟨k, rfl⟩ : ∃ m, k = m + 1 := ⟨k - 1, by omega⟩
    simp only [spec_CutAge.f, a1, Option.bind_some]
    rw [if_pos q]
    simp only [spec_CutAge.j0, if_true, Option.bind_some, List.length_nil, List.nil_append, cutAge, if_pos q]
    rw [if_pos (by omega)]
  obtain ⟨m, hm, hml⟩ := ageIdx_at0 l id q
  by_cases q2 : agesOkB l = true
  · obtain ⟨K3, h3⟩ := evRange0 (σ := List S46) l.length (fun k s i => spec_CutAge.l0 k l id (m : Int) s i) (fun i s => s.length ≤ i) (fun i s => (s ++ cutTail id (l.getD m z46).f1 m l i, true)) [] (by simp)
      (by
        intro i s hi hs
        have hr : rd_T46 l (i : Int) = l.getD i z46 := by simp [rd_T46]
        have hr2 : rd_T46 l (m : Int) = l.getD m z46 := by simp [rd_T46]
        have hc := cutTail_at id (l.getD m z46).f1 m l i hi
        refine .inl ⟨s ++ (if i = m then [] else [cutFix id (l.getD m z46).f1 (l.getD i z46)]), ?_, ?_, 0, 1, fun k _ => ?_⟩
        · split <;> simp <;> omega
        · rw [hc, List.append_assoc]
        · simp only [spec_CutAge.l0, hr, hr2]
          generalize l.getD i z46 = y at *
          generalize l.getD m z46 = ym at *
          rw [if_pos (by omega), if_pos (by omega), w64s i (by omega)]
          by_cases q3 : y.f1 = id
          · rw [if_pos q3, if_pos (by omega), if_pos (by omega)]
            by_cases q4 : i = m
            · rw [if_pos (by omega), if_pos q4, List.append_nil]
            · rw [if_neg (by omega), if_neg q4, if_pos (by omega), cutFix, if_pos q3]
          · rw [if_neg q3]
            by_cases q4 : i = m
            · rw [if_pos (by omega), if_pos q4, List.append_nil]
            · rw [if_neg (by omega), if_neg q4, if_pos (by omega), cutFix, if_neg q3])
      (by
        intro s hs
        refine ⟨0, 1, fun k _ => ?_⟩
        simp only [spec_CutAge.l0]
        rw [if_neg (by omega)]
        unfold cutTail
        rw [if_neg (by omega), List.drop_eq_nil_of_le (by simp), List.append_nil])
    refine ⟨K1 + K2 + K3 + 1, fun k hk => ?_⟩
    have a1 := h1 k (by omega)
    have a2 := h2 k (by omega)
    have a3 := h3 (k - 1) (by omega)
    simp only at a1 a2 a3
    obtain ⟨k, rfl⟩ : ∃ m, k = m + 1 := ⟨k - 1, by omega⟩
    simp only [spec_CutAge.f, a1, Option.bind_some]
    rw [if_neg q]
    simp only [a2, q2, Option.bind_some, Bool.not_true, spec_CutAge.j0, Bool.false_eq_true, if_false, hm]
    rw [Nat.add_sub_cancel] at a3
    rw [a3, cutAge, if_neg q, if_pos q2, hm]
    simp only [List.nil_append, cutTail, Int.toNat_natCast]
    rw [if_pos (Nat.zero_le _), List.drop_zero, Nat.sub_zero]
  · refine ⟨K1 + K2 + 1, fun k hk => ?_⟩
    have a1 := h1 k (by omega)
    have a2 := h2 k (by omega)
    simp only at a1 a2
    have q3 : agesOkB l = false := by simpa using q2
    obtain ⟨k, rfl⟩ : ∃ m, k = m + 1 := ⟨k - 1, by omega⟩
    simp only [spec_CutAge.f, a1, Option.bind_some]
    rw [if_neg q]
    simp only [a2, q3, Option.bind_some, Bool.not_false, spec_CutAge.j0, if_true, List.length_nil, List.nil_append]
    rw [if_pos (by omega), cutAge, if_neg q, if_neg q2]

theorem impl_CutAge_ev (l : List S46) (id : Int) (h : okAgeS l) : Ev (fun k => impl_CutAge.f k l id) (cutAge l id) := by
  have hl : l.length ≤ 4194304 := h
  obtain ⟨K2, h2⟩ := impl_AgesOk_ev l h
  have hcp : impl_copyAges.f l = some l := by
    simp only [impl_copyAges.f, Option.bind_some, List.length_nil, List.nil_append]
    rw [if_pos (by omega)]
  by_cases q : ageIdx l id 0 < 0
  · refine ⟨1, fun k hk => ?_⟩
    obtain ⟨k, rfl⟩ : ∃ m, k = m + 1 := ⟨k - 1, by omega⟩
    simp only [impl_CutAge.f, impl_AgeAt.f, hcp, Option.bind_some]
    rw [if_pos q]
    simp only [impl_CutAge.j0, if_true, cutAge, if_pos q]
  obtain ⟨m, hm, hml⟩ := ageIdx_at0 l id q
  by_cases q2 : agesOkB l = true
  · obtain ⟨K3, h3⟩ := evRange0 (σ := List S46) l.length (fun k s i => impl_CutAge.l0 k l id (m : Int) s (l.length : Int) i) (fun i s => s = (l.map (cutFix id (l.getD m z46).f1)).take i ++ l.drop i) (fun i s => ((l.map (cutFix id (l.getD m z46).f1)).eraseIdx m, true)) l (by simp)
      (by
        intro i s hi hs
        have hr2 : rd_T46 l (m : Int) = l.getD m z46 := by simp [rd_T46]
        have hlen : s.length = l.length := by rw [hs]; simp; omega
        have hd := drop_getD l i z46 hi
        have htl : ((l.map (cutFix id (l.getD m z46).f1)).take i).length = i := by simp; omega
        have hr : rd_T46 s (i : Int) = l.getD i z46 := by
          unfold rd_T46
          rw [Int.toNat_natCast, hs, List.getD_eq_getElem?_getD, List.getElem?_append_right (by omega), htl, Nat.sub_self, hd]
          rfl
        have htk : (l.map (cutFix id (l.getD m z46).f1)).take (i + 1) = (l.map (cutFix id (l.getD m z46).f1)).take i ++ [cutFix id (l.getD m z46).f1 (l.getD i z46)] := by
          rw [take_getD _ i z46 (by simpa using hi)]
          congr 2
          have e1 : ∀ (a : List S46) (h : i < a.length), a.getD i z46 = a[i] := fun a h => by rw [List.getD_eq_getElem?_getD, List.getElem?_eq_getElem h]; rfl
          rw [e1 _ (by simpa using hi), e1 l hi, List.getElem_map]
        have hset : ∀ x, s.set i x = (l.map (cutFix id (l.getD m z46).f1)).take i ++ x :: l.drop (i + 1) := by
          intro x
          rw [hs, List.set_append_right _ _ (by omega), htl, Nat.sub_self, hd]
          rfl
        refine .inl ⟨s.set i (cutFix id (l.getD m z46).f1 (l.getD i z46)), ?_, rfl, 0, 1, fun k _ => ?_⟩
        · rw [hset, htk, List.append_assoc]; rfl
        · simp only [impl_CutAge.l0, hr, hr2]
          rw [if_pos (by omega), if_pos (by omega), if_pos (by omega), w64s i (by omega)]
          have hself : s.set i (l.getD i z46) = s := by rw [hset, ← hd, ← hs]
          generalize l.getD i z46 = y at *
          generalize l.getD m z46 = ym at *
          by_cases q3 : y.f1 = id
          · rw [if_pos q3, if_pos (by omega), if_pos (by omega), cutFix, if_pos q3, Int.toNat_natCast]
          · rw [if_neg q3, cutFix, if_neg q3, hself])
      (by
        intro s hs
        refine ⟨0, 1, fun k _ => ?_⟩
        have hs2 : s = l.map (cutFix id (l.getD m z46).f1) := by rw [hs, List.drop_length, List.append_nil, List.take_of_length_le (by simp)]
        have hlen : s.length = l.length := by rw [hs2, List.length_map]
        simp only [impl_CutAge.l0, impl_Age_54.f]
        rw [if_neg (by omega), w64s m (by omega), if_pos (by omega), if_pos (by omega), if_pos (by omega)]
        simp only [Option.bind_some, Int.toNat_natCast, hs2])
    refine ⟨K2 + K3 + 1, fun k hk => ?_⟩
    have a2 := h2 k (by omega)
    have a3 := h3 (k - 1) (by omega)
    simp only at a2 a3
    obtain ⟨k, rfl⟩ : ∃ m, k = m + 1 := ⟨k - 1, by omega⟩
    simp only [impl_CutAge.f, impl_AgeAt.f, hcp, Option.bind_some]
    rw [if_neg q]
    simp only [a2, q2, Option.bind_some, Bool.not_true, impl_CutAge.j0, Bool.false_eq_true, if_false, hm]
    rw [Nat.add_sub_cancel] at a3
    rw [a3, cutAge, if_neg q, if_pos q2, hm]
    rfl
  · refine ⟨K2 + 1, fun k hk => ?_⟩
    have a2 := h2 k (by omega)
    simp only at a2
    have q3 : agesOkB l = false := by simpa using q2
    obtain ⟨k, rfl⟩ : ∃ m, k = m + 1 := ⟨k - 1, by omega⟩
    simp only [impl_CutAge.f, impl_AgeAt.f, hcp, Option.bind_some]
    rw [if_neg q]
    simp only [a2, q3, Option.bind_some, Bool.not_false, impl_CutAge.j0, if_true]
    rw [cutAge, if_neg q, if_neg q2]

theorem sameInts_ev (l : List Int) (h : l.length ≤ 4194304) : Ev (fun k => laws_sameInts.f k l l) true := by
  obtain ⟨K, hk⟩ := evRange0 (σ := Unit) l.length (fun k _ i => laws_sameInts.l0 k l l i) (fun _ _ => True) (fun _ _ => true) () trivial
    (by
      intro i _ hi _
      refine .inl ⟨(), trivial, rfl, 0, 1, fun k _ => ?_⟩
      simp only [laws_sameInts.l0]
      rw [if_pos (by omega), if_pos (by omega), if_pos (by omega), if_pos trivial, w64s i (by omega)])
    (by
      intro _ _
      refine ⟨0, 1, fun k _ => ?_⟩
      simp only [laws_sameInts.l0]
      rw [if_neg (by omega)])
  refine ⟨K, fun k hk' => ?_⟩
  simp only [laws_sameInts.f, if_true]
  exact hk k hk'

def insAge (id frm : Int) : List S46 → List S46
  | [] => [⟨id, frm⟩]
  | x :: xs => if x.f0 > id then ⟨id, frm⟩ :: x :: xs else x :: insAge id frm xs
theorem insAge_length (id frm : Int) : ∀ l : List S46, (insAge id frm l).length = l.length + 1
  | [] => rfl
  | x :: xs => by
    unfold insAge
    by_cases h : x.f0 > id
    · rw [if_pos h]; rfl
    · rw [if_neg h, List.length_cons, insAge_length id frm xs]; rfl
def newAgeFin (l : List S46) (id : Int) (out : List S46) : List S46 × Bool := if 0 ≤ ageIdx l id 0 then (l, false) else if agesOkB out = true then (out, true) else (l, false)
def newAge (l : List S46) (id frm : Int) : List S46 × Bool := newAgeFin l id (insAge id frm l)
theorem newAgeFin_length (l : List S46) (id : Int) (out : List S46) : (newAgeFin l id out).1.length ≤ max l.length out.length := by
  unfold newAgeFin
  split
  · exact Nat.le_max_left ..
  · split
    · exact Nat.le_max_right ..
    · exact Nat.le_max_left ..
theorem newAge_ok (l : List S46) (id frm : Int) (h : agesOkB l = true) : agesOkB (newAge l id frm).1 = true := by
  unfold newAge newAgeFin
  split
  · exact h
  · split
    · assumption
    · exact h

theorem newAge_j1 (l out : List S46) (id : Int) (ho : okAgeS l) (hout : okAgeS out) : Ev (fun k => spec_NewAge.j1 k l id out) (newAgeFin l id out) := by
  have hl : l.length ≤ 4194304 := ho
  obtain ⟨K1, h1⟩ := spec_AgeAt_ev l id ho
  obtain ⟨K2, h2⟩ := spec_AgesOk_ev out hout
  refine evSucc ⟨K1 + K2, 1, fun k hk => ?_⟩
  simp only [spec_NewAge.j1, h1 k (by omega), h2 k (by omega), Option.bind_some, newAgeFin, List.length_nil, List.nil_append]
  by_cases q : ageIdx l id 0 ≥ 0
  · rw [if_pos q, if_pos (show 0 ≤ ageIdx l id 0 from q), if_pos (show 0 + l.length < 8796093022208 by omega)]
  · rw [if_neg q, if_neg (show ¬ 0 ≤ ageIdx l id 0 by omega)]
    by_cases q2 : agesOkB out = true
    · rw [if_pos q2, if_pos q2]
    · rw [if_neg q2, if_neg q2, if_pos (show 0 + l.length < 8796093022208 by omega)]
theorem newAge_go (l : List S46) (id frm : Int) (h : l.length ≤ 1048576) (b : Bool) : Ev (fun k => spec_NewAge.l0 k l id frm [] b 0) (newAgeFin l id (if b = true then l else insAge id frm l)) := by
  have ho : okAgeS l := by unfold okAgeS; omega
  obtain ⟨K, hk⟩ := evRange0 (σ := List S46 × Bool) l.length (fun k s i => spec_NewAge.l0 k l id frm s.1 s.2 i) (fun i s => s.1.length ≤ 2 * i) (fun i s => newAgeFin l id (s.1 ++ if s.2 = true then l.drop i else insAge id frm (l.drop i))) ([], b) (by simp)
    (by
      intro i s hi hs
      obtain ⟨out, d⟩ := s
      have hs : out.length ≤ 2 * i := hs
      have hd := drop_getD l i z46 hi
      have hr : rd_T46 l (i : Int) = l.getD i z46 := by simp [rd_T46]
      generalize l.getD i z46 = y at *
      cases d with
      | true =>
        refine .inl ⟨(out ++ [y], true), by simp; omega, ?_, 0, 1, fun k _ => ?_⟩
        · simp only [if_true]; rw [hd, List.append_assoc]; rfl
        · simp only [spec_NewAge.l0, hr, if_true]
          rw [if_pos (by omega), if_pos (by omega), if_pos (by omega), w64s i (by omega)]
      | false =>
        by_cases q : y.f0 > id
        · refine .inl ⟨(out ++ [⟨id, frm⟩] ++ [y], true), by simp; omega, ?_, 0, 1, fun k _ => ?_⟩
          · simp only [if_true, Bool.false_eq_true, if_false]; rw [hd, insAge, if_pos q, List.append_assoc, List.append_assoc]; rfl
          · simp only [spec_NewAge.l0, hr, Bool.false_eq_true, if_false, Option.bind_some]
            rw [if_pos (by omega), if_pos (by omega), if_pos q, if_pos (by omega), if_pos (by simp; omega), w64s i (by omega)]
        · refine .inl ⟨(out ++ [y], false), by simp; omega, ?_, 0, 1, fun k _ => ?_⟩
          · simp only [Bool.false_eq_true, if_false]; rw [hd, insAge, if_neg q, List.append_assoc]; rfl
          · simp only [spec_NewAge.l0, hr, Bool.false_eq_true, if_false]
            rw [if_pos (by omega), if_pos (by omega), if_neg q, if_pos (by omega), w64s i (by omega)])
    (by
      intro s hs
      obtain ⟨out, d⟩ := s
      have hs : out.length ≤ 2 * l.length := hs
      cases d with
      | true =>
        obtain ⟨K, hK⟩ := newAge_j1 l out id ho (by unfold okAgeS; omega)
        refine ⟨K, 1, fun k hk => ?_⟩
        simp only [spec_NewAge.l0, if_true, hK k hk]
        rw [if_neg (by omega), List.drop_length, List.append_nil]
      | false =>
        obtain ⟨K, hK⟩ := newAge_j1 l (out ++ [⟨id, frm⟩]) id ho (by unfold okAgeS; simp; omega)
        refine ⟨K, 1, fun k hk => ?_⟩
        simp only [spec_NewAge.l0, Bool.false_eq_true, if_false, hK k hk]
        rw [if_neg (by omega), if_pos (by omega), List.drop_length]
        rfl)
  refine ⟨K, fun k hk' => ?_⟩
  have := hk k hk'
  simpa using this
theorem spec_NewAge_ev (l : List S46) (id frm : Int) (h : l.length ≤ 1048576) : Ev (fun k => spec_NewAge.f k l id frm) (newAge l id frm) := by
  have ho : okAgeS l := by unfold okAgeS; omega
  obtain ⟨K1, h1⟩ := spec_AgeAt_ev l id ho
  obtain ⟨K2, h2⟩ := newAge_go l id frm h (decide (ageIdx l id 0 ≥ 0))
  refine ⟨K1 + K2, fun k hk => ?_⟩
  have h2 := h2 k (by omega)
  simp only [spec_NewAge.f, h1 k (by omega), Option.bind_some, newAge]
  rw [show newAgeFin l id (insAge id frm l) = newAgeFin l id (if decide (ageIdx l id 0 ≥ 0) = true then l else insAge id frm l) from ?_]
  · exact h2
  · by_cases q : ageIdx l id 0 ≥ 0
    · unfold newAgeFin; rw [if_pos q, if_pos q]
    · rw [decide_eq_false q, if_neg (by decide)]

theorem newAge_len (l : List S46) (id frm : Int) (h : okAgeS l) (h2 : l.length ≤ 1048576) : okAgeS (newAge l id frm).1 := by
  have h1 := newAgeFin_length l id (insAge id frm l)
  rw [insAge_length] at h1
  unfold newAge okAgeS
  omega
theorem impl_NewAge_j1 (l : List S46) (id frm : Int) (h : l.length ≤ 1048576) (i : Nat) (hi : i ≤ l.length) (he : l.take i ++ [⟨id, frm⟩] ++ l.drop i = insAge id frm l) : Ev (fun k => impl_NewAge.j1 k l id frm (i : Int)) (newAge l id frm) := by
  have hcp : impl_copyAges.f l = some l := by
    simp only [impl_copyAges.f, Option.bind_some, List.length_nil, List.nil_append]
    rw [if_pos (by omega)]
  have hins : impl_Age_58.f l (i : Int) [⟨id, frm⟩] = some (insAge id frm l) := by
    unfold impl_Age_58.f
    rw [if_pos (by omega), if_pos (by omega), if_pos (by rfl), if_pos (by omega), Int.toNat_natCast, he]
  obtain ⟨K, hk⟩ := impl_AgesOk_ev (insAge id frm l) (by unfold okAgeS; rw [insAge_length]; omega)
  refine ⟨K + 1, fun k hk' => ?_⟩
  have a := hk (k - 1) (by omega)
  simp only at a
  obtain ⟨k, rfl⟩ : ∃ m, k = m + 1 := ⟨k - 1, by omega⟩
  rw [Nat.add_sub_cancel] at a
  simp only [impl_NewAge.j1, hcp, hins, impl_AgeAt.f, a, Option.bind_some, newAge, newAgeFin]
  by_cases q : ageIdx l id 0 ≥ 0
  · rw [if_pos q, if_pos q]
  · have q' : ¬ 0 ≤ ageIdx l id 0 := q
    rw [if_neg q, if_neg q']
    by_cases q2 : agesOkB (insAge id frm l) = true
    · rw [if_pos q2, if_pos q2]
    · rw [if_neg q2, if_neg q2]
theorem impl_NewAge_ev (l : List S46) (id frm : Int) (h : l.length ≤ 1048576) : Ev (fun k => impl_NewAge.f k l id frm) (newAge l id frm) := by
  obtain ⟨K, hk⟩ := evRange0 (σ := Unit) l.length (fun k _ i => impl_NewAge.l0 k l id frm i) (fun i _ => l.take i ++ insAge id frm (l.drop i) = insAge id frm l) (fun _ _ => newAge l id frm) () (by simp)
    (by
      intro i _ hi hs
      have hd := drop_getD l i z46 hi
      have ht := take_getD l i z46 hi
      have hr : rd_T46 l (i : Int) = l.getD i z46 := by simp [rd_T46]
      generalize l.getD i z46 = y at *
      rw [hd] at hs
      by_cases q : y.f0 ≤ id
      · refine .inl ⟨(), ?_, rfl, 0, 1, fun k _ => ?_⟩
        · rw [ht, List.append_assoc, ← hs, insAge, if_neg (by omega)]
          rfl
        · simp only [impl_NewAge.l0, hr]
          rw [if_pos (by omega), if_pos (by omega), if_pos q, w64s i (by omega)]
      · rw [insAge, if_pos (by omega), ← hd] at hs
        obtain ⟨K, hK⟩ := impl_NewAge_j1 l id frm h i (by omega) (by rw [← hs, List.append_assoc]; rfl)
        refine .inr ⟨K, 1, fun k hk => ?_⟩
        have := hK k hk
        simp only at this
        simp only [impl_NewAge.l0, hr]
        rw [if_pos (by omega), if_pos (by omega), if_neg q, this])
    (by
      intro _ hs
      rw [List.take_length, List.drop_length, insAge] at hs
      obtain ⟨K, hK⟩ := impl_NewAge_j1 l id frm h l.length (Nat.le_refl _) (by rw [List.take_length, List.drop_length, List.append_nil, ← hs])
      refine ⟨K, 1, fun k hk => ?_⟩
      have := hK k hk
      simp only at this
      simp only [impl_NewAge.l0]
      rw [if_neg (by omega), this])
  exact ⟨K, fun k hk' => hk k hk'⟩

theorem sameAges_ev (l : List S46) (h : l.length ≤ 4194304) : Ev (fun k => laws_sameAges.f k l l) true := by
  obtain ⟨K, hk⟩ := evRange0 (σ := Unit) l.length (fun k _ i => laws_sameAges.l0 k l l i) (fun _ _ => True) (fun _ _ => true) () trivial
    (by
      intro i _ hi _
      refine .inl ⟨(), trivial, rfl, 0, 1, fun k _ => ?_⟩
      simp only [laws_sameAges.l0]
      rw [if_pos (by omega), if_pos (by omega), if_pos (by omega), if_neg (by simp), w64s i (by omega)])
    (by
      intro _ _
      refine ⟨0, 1, fun k _ => ?_⟩
      simp only [laws_sameAges.l0]
      rw [if_neg (by omega)])
  refine ⟨K, fun k hk' => ?_⟩
  simp only [laws_sameAges.f, if_true]
  exact hk k hk'

def bytesIn (l : List Int) : Prop := ∀ x ∈ l, 0 ≤ x ∧ x ≤ 255
theorem bytesIn_at {l : List Int} (h : bytesIn l) (i : Nat) : 0 ≤ l.getD i 0 ∧ l.getD i 0 ≤ 255 := by
  by_cases hi : i < l.length
  · exact h _ (getD_mem l i 0 hi)
  · rw [List.getD_eq_getElem?_getD, List.getElem?_eq_none (by omega)]; decide
def getW (l : List Int) (a : Int) : Int × Int × Bool := if 0 ≤ a ∧ a ≤ (l.length : Int) - 2 then (l.getD a.toNat 0 * 256 + l.getD (a.toNat + 1) 0, a + 2, true) else (0, 0, false)

/-! The cursor of a draw: bytes, how far, a number that follows from them. -/
def curOk (b : List Int) (i : Int) : Prop := bytesIn b ∧ b.length ≤ 1048576 ∧ 0 ≤ i ∧ i ≤ (b.length : Int)

theorem l1New_ex (b : List Int) (hb : bytesIn b) (hl : b.length ≤ 1048576) : ∃ h, Ev (fun k => spec_l1New.f k b) (b, 0, h) := by
  obtain ⟨r, ⟨h, rfl⟩, K, hk⟩ := evRangeEx (σ := Int) b.length (fun k s i => spec_l1New.l0 k b s i) (fun _ _ => True) (fun r => ∃ h, r = (b, 0, h))
    (by
      intro i s hi _
      by_cases c : i < 4000
      · refine .inl ⟨Go.bits .and .i64 (wrap64 ((wrap64 ((wrap64 (s * 137)) + (wrap64 (rd b (i : Int))))) + 11)) 1073741823, trivial, 0, 1, fun k _ => ?_⟩
        simp only [spec_l1New.l0]
        rw [if_pos (by omega), if_pos (by omega), if_pos (by omega), w64s i (by omega)]
      · refine .inr ⟨(b, 0, s), ⟨s, rfl⟩, 0, 1, fun k _ => ?_⟩
        simp only [spec_l1New.l0]
        rw [if_pos (by omega), if_neg (by omega)])
    (by
      intro s _
      refine ⟨(b, 0, s), ⟨s, rfl⟩, 0, 1, fun k _ => ?_⟩
      simp only [spec_l1New.l0]
      rw [if_neg (by omega)]) 0 (wrap64 (941941 + (b.length : Int))) (Nat.zero_le _) trivial
  exact ⟨h, K, fun k hk' => hk k hk'⟩

theorem l1Byte_ex (b : List Int) (i h : Int) (hc : curOk b i) : ∃ x j g, spec_l1Byte.f b i h = some (x, j, g) ∧ (0 ≤ x ∧ x ≤ 255) ∧ curOk b j := by
  obtain ⟨hb, hl, h0, h1⟩ := hc
  unfold spec_l1Byte.f
  simp only [and255]
  by_cases c : i < (b.length : Int)
  · rw [if_pos c, if_pos h0]
    exact ⟨_, _, _, rfl, ⟨by omega, by omega⟩, hb, hl, by rw [w64 (by omega) (by omega)]; omega, by rw [w64 (by omega) (by omega)]; omega⟩
  · rw [if_neg c]
    exact ⟨_, _, _, rfl, ⟨by omega, by omega⟩, hb, hl, h0, h1⟩

theorem l1Below_ex (b : List Int) (i h n : Int) (hc : curOk b i) (hn : n ≤ 9223372036854775807) : ∃ x j g, spec_l1Below.f b i h n = some (x, j, g) ∧ (0 ≤ x ∧ (0 < n → x < n) ∧ (n ≤ 0 → x = 0)) ∧ curOk b j := by
  unfold spec_l1Below.f
  by_cases c : n ≤ 0
  · rw [if_pos c]; exact ⟨_, _, _, rfl, ⟨by omega, by omega, fun _ => rfl⟩, hc⟩
  rw [if_neg c]
  by_cases c2 : n ≤ 256
  · rw [if_pos c2]
    obtain ⟨x, j, g, e, hx, hj⟩ := l1Byte_ex b i h hc
    simp only [e, Option.bind_some]
    rw [if_neg (by omega)]
    have h1 := Int.tmod_nonneg (b := n) hx.1
    have h2 := Int.tmod_lt_of_pos x (show 0 < n by omega)
    exact ⟨_, _, _, rfl, ⟨h1, fun _ => h2, fun h => by omega⟩, hj⟩
  · rw [if_neg c2]
    obtain ⟨x, j, g, e, hx, hj⟩ := l1Byte_ex b i h hc
    obtain ⟨x2, j2, g2, e2, hx2, hj2⟩ := l1Byte_ex b j g hj
    obtain ⟨x3, j3, g3, e3, hx3, hj3⟩ := l1Byte_ex b j2 g2 hj2
    simp only [e, e2, e3, Option.bind_some]
    rw [if_neg (by omega), w64 (x := x * 65536) (by omega) (by omega), w64 (x := x2 * 256) (by omega) (by omega), w64 (x := x * 65536 + x2 * 256) (by omega) (by omega), w64 (x := x * 65536 + x2 * 256 + x3) (by omega) (by omega)]
    have h1 := Int.tmod_nonneg (b := n) (show 0 ≤ x * 65536 + x2 * 256 + x3 by omega)
    have h2 := Int.tmod_lt_of_pos (x * 65536 + x2 * 256 + x3) (show 0 < n by omega)
    exact ⟨_, _, _, rfl, ⟨h1, fun _ => h2, fun h => by omega⟩, hj3⟩

theorem agesOk_len {l : List S46} (h : agesOkB l = true) : l.length ≤ 16 := by
  unfold agesOkB at h
  rw [Bool.and_eq_true, decide_eq_true_eq] at h
  omega
theorem l7Go_ex (b : List Int) : ∀ (n : Nat) (l : List S46) (j g : Int), n ≤ 8 → agesOkB l = true → curOk b j → ∃ l' j' g', agesOkB l' = true ∧ curOk b j' ∧ Ev (fun k => spec_l7Draw.l0 k l (n : Int) b j g) (l', j', g')
  | 0, l, j, g, _, hl, hc => ⟨l, j, g, hl, hc, evSucc ⟨0, 1, fun k _ => by simp only [spec_l7Draw.l0]; rw [if_neg (by omega)]⟩⟩
  | n + 1, l, j, g, hn, hl, hc => by
    have hlen := agesOk_len hl
    have tail : ∀ (f j g : Int), curOk b j → ∃ l' j' g', agesOkB l' = true ∧ curOk b j' ∧ Ev (fun k => spec_l7Draw.j1 k l ((n + 1 : Nat) : Int) f false b j g) (l', j', g') := by
      intro f j g hc
      obtain ⟨x, j1, g1, e, hx, hj⟩ := l1Below_ex b j g 8 hc (by decide)
      have hx8 := hx.2.1 (by decide)
      obtain ⟨l', j', g', hl', hj', K, hK⟩ := l7Go_ex b n (newAge l (1 + x) f).1 j1 g1 (by omega) (newAge_ok l _ _ hl) hj
      obtain ⟨K2, hK2⟩ := spec_NewAge_ev l (1 + x) f (by omega)
      refine ⟨l', j', g', hl', hj', evSucc ⟨K + K2, 1, fun k hk => ?_⟩⟩
      have a1 := hK k (by omega)
      simp only at a1
      simp only [spec_l7Draw.j1, e, Option.bind_some, Bool.false_eq_true, if_false, w64 (x := 1 + x) (by omega) (by omega), hK2 k (by omega), w64 (x := ((n + 1 : Nat) : Int) - 1) (by omega) (by omega)]
      rw [show ((n + 1 : Nat) : Int) - 1 = (n : Int) by omega]
      exact a1
    have tail2 : ∀ (f j g : Int), 0 < l.length → curOk b j → ∃ l' j' g', agesOkB l' = true ∧ curOk b j' ∧ Ev (fun k => spec_l7Draw.j1 k l ((n + 1 : Nat) : Int) f true b j g) (l', j', g') := by
      intro f j g hpos hc
      obtain ⟨y, j0, g0, e0, hy, hj0⟩ := l1Below_ex b j g (l.length : Int) hc (by omega)
      have hy1 := hy.2.1 (by omega)
      obtain ⟨x, j1, g1, e, hx, hj⟩ := l1Below_ex b j0 g0 8 hj0 (by decide)
      have hx8 := hx.2.1 (by decide)
      obtain ⟨l', j', g', hl', hj', K, hK⟩ := l7Go_ex b n (newAge l (1 + x) (rd_T46 l y).f0).1 j1 g1 (by omega) (newAge_ok l _ _ hl) hj
      obtain ⟨K2, hK2⟩ := spec_NewAge_ev l (1 + x) (rd_T46 l y).f0 (by omega)
      refine ⟨l', j', g', hl', hj', evSucc ⟨K + K2, 1, fun k hk => ?_⟩⟩
      have a1 := hK k (by omega)
      simp only at a1
      simp only [spec_l7Draw.j1, e0, e, Option.bind_some, if_true, w64 (x := 1 + x) (by omega) (by omega), hK2 k (by omega), w64 (x := ((n + 1 : Nat) : Int) - 1) (by omega) (by omega)]
      rw [if_pos hy.1, if_pos hy1, show ((n + 1 : Nat) : Int) - 1 = (n : Int) by omega]
      exact a1
    by_cases c : 0 < l.length
    · obtain ⟨x, j1, g1, e, hx, hj⟩ := l1Below_ex b j g 4 hc (by decide)
      have : ∃ l' j' g', agesOkB l' = true ∧ curOk b j' ∧ Ev (fun k => spec_l7Draw.j1 k l ((n + 1 : Nat) : Int) 0 (!(x == 0)) b j1 g1) (l', j', g') := by
        cases (!(x == 0)) with
        | true => exact tail2 0 j1 g1 c hj
        | false => exact tail 0 j1 g1 hj
      obtain ⟨l', j', g', hl', hj', K, hK⟩ := this
      refine ⟨l', j', g', hl', hj', evSucc ⟨K, 1, fun k hk => ?_⟩⟩
      have a1 := hK k hk
      simp only at a1
      simp only [spec_l7Draw.l0, spec_l1Once.f, e, Option.bind_some]
      rw [if_pos (by omega), if_pos (by omega)]
      exact a1
    · obtain ⟨l', j', g', hl', hj', K, hK⟩ := tail 0 j g hc
      refine ⟨l', j', g', hl', hj', evSucc ⟨K, 1, fun k hk => ?_⟩⟩
      have a1 := hK k hk
      simp only at a1
      simp only [spec_l7Draw.l0]
      rw [if_pos (by omega), if_neg (by omega)]
      exact a1
theorem l7Draw_ex (b : List Int) (i h : Int) (hc : curOk b i) : ∃ r : List S46 × Int × Int, (agesOkB r.1 = true ∧ curOk b r.2.1) ∧ Ev (fun k => spec_l7Draw.f k b i h) r := by
  obtain ⟨n, j1, g1, e1, hn, hj1⟩ := l1Below_ex b i h 8 hc (by decide)
  have hn8 := hn.2.1 (by decide)
  obtain ⟨m, rfl⟩ := Int.eq_ofNat_of_zero_le hn.1
  obtain ⟨l, j2, g2, hok, hj2, K2, e2⟩ := l7Go_ex b m [] j1 g1 (by omega) (by rfl) hj1
  refine ⟨(l, j2, g2), ⟨hok, hj2⟩, K2, fun k hk => ?_⟩
  have a2 := e2 k hk
  simp only at a2
  simp only [spec_l7Draw.f, e1, Option.bind_some, a2]

theorem rd_mem (l : List Int) (i : Int) (h0 : 0 ≤ i) (h1 : i < (l.length : Int)) : rd l i ∈ l := by unfold rd; exact getD_mem l i.toNat 0 (by omega)
theorem l1Int_ex (b : List Int) (i h : Int) (l : List Int) (hc : curOk b i) (hl : 0 < l.length) (hm : l.length ≤ 1048576) : ∃ x j g, spec_l1Int.f b i h l = some (x, j, g) ∧ x ∈ l ∧ curOk b j := by
  obtain ⟨x, j, g, e, hx, hj⟩ := l1Below_ex b i h (l.length : Int) hc (by omega)
  have h1 := hx.2.1 (by omega)
  unfold spec_l1Int.f
  simp only [e, Option.bind_some]
  rw [if_pos hx.1, if_pos h1]
  exact ⟨_, _, _, rfl, rd_mem l x hx.1 h1, hj⟩

theorem l7Any_loop (b : List Int) (j g : Int) : ∀ (r : Nat) (l : List S46) (i : Nat), i + r = 14 → l.length ≤ 16 + i → ∃ l' : List S46, l'.length ≤ 30 ∧ Ev (fun k => spec_l7Any.l0 k l (i : Int) b j g) (l', j, g)
  | 0, l, i, hi, hl => ⟨l, by omega, evSucc ⟨0, 1, fun k _ => by simp only [spec_l7Any.l0]; rw [if_neg (by omega)]⟩⟩
  | r + 1, l, i, hi, hl => by
    obtain ⟨l', h', K, hK⟩ := l7Any_loop b j g r (l ++ [⟨wrap64 (20 + (i : Int)), 0⟩]) (i + 1) (by omega) (by simp; omega)
    refine ⟨l', h', evSucc ⟨K, 1, fun k hk => ?_⟩⟩
    have a := hK k hk
    simp only at a
    simp only [spec_l7Any.l0]
    rw [if_pos (by omega), if_pos (by omega), w64s i (by omega)]
    exact a
theorem l7Any_ex (b : List Int) (i h : Int) (hc : curOk b i) : ∃ r : List S46 × Int × Int, (r.1.length ≤ 30 ∧ curOk b r.2.1) ∧ Ev (fun k => spec_l7Any.f k b i h) r := by
  obtain ⟨⟨l, i1, h1⟩, ⟨hok, hc1⟩, K, e⟩ := l7Draw_ex b i h hc
  simp only at hok hc1
  have hl := agesOk_len hok
  obtain ⟨a, j, g, e1, ha, hj⟩ := l1Below_ex b i1 h1 8 hc1 (by decide)
  by_cases q : a = 0
  · obtain ⟨x, j2, g2, e2, hx, hj2⟩ := l1Int_ex b j g [0, 3, 60, 61] hj (by decide) (by decide)
    obtain ⟨y, j3, g3, e3, hy, hj3⟩ := l1Int_ex b j2 g2 [0, 1, 9, (-1)] hj2 (by decide) (by decide)
    refine ⟨(l ++ [⟨x, y⟩], j3, g3), ⟨by simp; omega, hj3⟩, K, fun k hk => ?_⟩
    have a0 := e k hk
    simp only at a0
    simp only [spec_l7Any.f, a0, e1, Option.bind_some]
    rw [if_pos q]
    simp only [e2, e3, Option.bind_some]
    rw [if_pos (by omega)]
  by_cases q1 : a = 1
  · by_cases c : (l.length : Int) > 0
    · obtain ⟨x, j2, g2, e2, hx, hj2⟩ := l1Int_ex b j g [1, 2, 3] hj (by decide) (by decide)
      refine ⟨(l.set (0 : Int).toNat (⟨(rd_T46 l 0).f0, x⟩ : S46), j2, g2), ⟨by simp only [List.length_set]; omega, hj2⟩, K, fun k hk => ?_⟩
      have a0 := e k hk
      simp only at a0
      simp only [spec_l7Any.f, a0, e1, Option.bind_some]
      rw [if_neg q, if_pos q1, if_pos c]
      simp only [e2, Option.bind_some]
      rw [if_pos (by omega)]
    · refine ⟨(l, j, g), ⟨by simp only; omega, hj⟩, K, fun k hk => ?_⟩
      have a0 := e k hk
      simp only at a0
      simp only [spec_l7Any.f, a0, e1, Option.bind_some]
      rw [if_neg q, if_pos q1, if_neg c]
  by_cases q2 : a = 2
  · obtain ⟨l', h', K2, e2⟩ := l7Any_loop b j g 14 l 0 (by omega) (by omega)
    refine ⟨(l', j, g), ⟨h', hj⟩, K + K2, fun k hk => ?_⟩
    have a0 := e k (by omega)
    have a2 := e2 k (by omega)
    simp only at a0 a2
    simp only [spec_l7Any.f, a0, e1, Option.bind_some]
    rw [if_neg q, if_neg q1, if_pos q2]
    exact a2
  · refine ⟨(l, j, g), ⟨by simp only; omega, hj⟩, K, fun k hk => ?_⟩
    have a0 := e k hk
    simp only at a0
    simp only [spec_l7Any.f, a0, e1, Option.bind_some]
    rw [if_neg q, if_neg q1, if_neg q2]

theorem DrawAgesOk_ex (b : List Int) (hb : bytesIn b) (hl : b.length ≤ 1048576) : ∃ r : List S46, r.length ≤ 30 ∧ Ev (fun k => spec_DrawAgesOk.f k b) r := by
  obtain ⟨h, K, e⟩ := l1New_ex b hb hl
  obtain ⟨⟨l, i1, h1⟩, ⟨hl1, hc1⟩, K1, e1⟩ := l7Any_ex b 0 h ⟨hb, hl, Int.le_refl _, by omega⟩
  simp only at hl1 hc1
  refine ⟨l, hl1, K + K1, fun k hk => ?_⟩
  have a0 := e k (by omega)
  have a1 := e1 k (by omega)
  simp only at a0 a1
  simp only [spec_DrawAgesOk.f, a0, a1, Option.bind_some]

theorem DrawAgeAt_ex (b : List Int) (hb : bytesIn b) (hl : b.length ≤ 1048576) : ∃ r : List S46 × Int, r.1.length ≤ 30 ∧ Ev (fun k => spec_DrawAgeAt.f k b) r := by
  obtain ⟨h, K, e⟩ := l1New_ex b hb hl
  obtain ⟨⟨l, i1, h1⟩, ⟨hl1, hc1⟩, K1, e1⟩ := l7Any_ex b 0 h ⟨hb, hl, Int.le_refl _, by omega⟩
  simp only at hl1 hc1
  obtain ⟨x, j, g, e2, hx, hj⟩ := l1Below_ex b i1 h1 10 hc1 (by decide)
  refine ⟨(l, x), hl1, K + K1, fun k hk => ?_⟩
  have a0 := e k (by omega)
  have a1 := e1 k (by omega)
  simp only at a0 a1
  simp only [spec_DrawAgeAt.f, a0, a1, Option.bind_some, e2]

theorem DrawIsFrom_ex (b : List Int) (hb : bytesIn b) (hl : b.length ≤ 1048576) : ∃ r : List S46 × Int × Int, r.1.length ≤ 30 ∧ Ev (fun k => spec_DrawIsFrom.f k b) r := by
  obtain ⟨h, K, e⟩ := l1New_ex b hb hl
  obtain ⟨⟨l, i1, h1⟩, ⟨hl1, hc1⟩, K1, e1⟩ := l7Any_ex b 0 h ⟨hb, hl, Int.le_refl _, by omega⟩
  simp only at hl1 hc1
  obtain ⟨x, j, g, e2, hx, hj⟩ := l1Below_ex b i1 h1 8 hc1 (by decide)
  obtain ⟨y, j2, g2, e3, hy, hj2⟩ := l1Below_ex b j g 8 hj (by decide)
  refine ⟨(l, wrap64 (1 + x), wrap64 (1 + y)), hl1, K + K1, fun k hk => ?_⟩
  have a0 := e k (by omega)
  have a1 := e1 k (by omega)
  simp only at a0 a1
  simp only [spec_DrawIsFrom.f, a0, a1, Option.bind_some, e2, e3]

theorem DrawNewAge_ex (b : List Int) (hb : bytesIn b) (hl : b.length ≤ 1048576) : ∃ r : List S46 × Int × Int, r.1.length ≤ 30 ∧ Ev (fun k => spec_DrawNewAge.f k b) r := by
  obtain ⟨h, K, e⟩ := l1New_ex b hb hl
  obtain ⟨⟨l, i1, h1⟩, ⟨hl1, hc1⟩, K1, e1⟩ := l7Any_ex b 0 h ⟨hb, hl, Int.le_refl _, by omega⟩
  simp only at hl1 hc1
  obtain ⟨x, j, g, e2, hx, hj⟩ := l1Below_ex b i1 h1 8 hc1 (by decide)
  obtain ⟨y, j2, g2, e3, hy, hj2⟩ := l1Int_ex b j g [3, 9, 60, 61, 0, wrap64 (1 + x)] hj (by simp) (by simp)
  obtain ⟨z, j3, g3, e4, hz, hj3⟩ := l1Below_ex b j2 g2 9 hj2 (by decide)
  refine ⟨(l, y, z), hl1, K + K1, fun k hk => ?_⟩
  have a0 := e k (by omega)
  have a1 := e1 k (by omega)
  simp only at a0 a1
  simp only [spec_DrawNewAge.f, a0, a1, Option.bind_some, e2, e3, e4]

theorem DrawCutAge_ex (b : List Int) (hb : bytesIn b) (hl : b.length ≤ 1048576) : ∃ r : List S46 × Int, r.1.length ≤ 30 ∧ Ev (fun k => spec_DrawCutAge.f k b) r := by
  obtain ⟨⟨l, x⟩, h, K, e⟩ := DrawAgeAt_ex b hb hl
  refine ⟨(l, x), h, K, fun k hk => ?_⟩
  have a := e k hk
  simp only at a
  simp only [spec_DrawCutAge.f, a, Option.bind_some]

end Go.Proofs.Ytpncphhbdkomjaa.Pure
