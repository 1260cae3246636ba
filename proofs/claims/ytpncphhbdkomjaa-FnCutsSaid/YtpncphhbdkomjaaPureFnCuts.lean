/- Whatever the arguments: the law answers true; said of the plain functions that the print made of the Go text, with no condition but that the arguments are of their kinds. -/
import Derived.Test.YtpncphhbdkomjaaMFnCutsx0
import Derived.Test.YtpncphhbdkomjaaMFnCutsx1
import Derived.Test.YtpncphhbdkomjaaMFnCutsx2
import Derived.Test.YtpncphhbdkomjaaMFnCutsx3
import Derived.Test.YtpncphhbdkomjaaMFnCutsx4
import Derived.Test.YtpncphhbdkomjaaMFnCutsx5
import Derived.Test.YtpncphhbdkomjaaMFnCutsx6
import Derived.Test.YtpncphhbdkomjaaMFnCutsx7
import Derived.Test.YtpncphhbdkomjaaMFnCutsx8
import Derived.Test.YtpncphhbdkomjaaMFnCutsx9
import Derived.Test.YtpncphhbdkomjaaCore
namespace Go.Proofs.Ytpncphhbdkomjaa.Pure
open Go.RowKit Go.Proofs.Ytpncphhbdkomjaa.PFnCuts Go.Proofs.Ytpncphhbdkomjaa.Core Go.Proofs.YtpncphhbdkomjaaW.PrintWords Go.Proofs.YtpncphhbdkomjaaW.PrintLast
set_option linter.unusedSimpArgs false
set_option linter.unusedVariables false

theorem impl_within_f (a b c : Int) : impl_within.f a b c = some (decide (b ≤ a ∧ a ≤ c)) := by
  unfold impl_within.f
  by_cases h : a ≥ b
  · rw [if_pos h]; congr 1; rw [Bool.eq_iff_iff]; simp; omega
  · rw [if_neg h]; congr 1; rw [Bool.eq_iff_iff]; simp; omega

def okAgeS (l : List S46) : Prop := l.length ≤ 4194304

def okIntS (l : List Int) : Prop := l.length ≤ 4194304
def cntIntS (l : List Int) : Int := l.length
def inIntS (l : List Int) : Prop := l.length ≤ 1048576
def sumIntS (l : List Int) : Int := l.length
theorem ageIdx_cases (l : List S46) (a : Int) (j : Nat) : ageIdx l a j = -1 ∨ ∃ i, i < l.length ∧ ageIdx l a j = ((j + i : Nat) : Int) ∧ (l.getD i z46).f0 = a := by
  induction l generalizing j with
  | nil => exact .inl rfl
  | cons x xs ih =>
    unfold ageIdx
    by_cases h : x.f0 = a
    · rw [if_pos h]; exact .inr ⟨0, by simp, by simp, by simpa using h⟩
    · rw [if_neg h]
      rcases ih (j + 1) with e | ⟨i, hi, e, hx⟩
      · exact .inl e
      · exact .inr ⟨i + 1, by simpa using hi, by rw [e]; congr 1; omega, by simpa using hx⟩
def ageOkAt (l : List S46) (i : Nat) : Bool := decide (1 ≤ (l.getD i z46).f0 ∧ (l.getD i z46).f0 ≤ 60) && (decide (¬ ((i : Int) > 0 ∧ (l.getD (i - 1) z46).f0 ≥ (l.getD i z46).f0)) && decide ((l.getD i z46).f1 = 0 ∨ ¬ ageIdx (l.take i) (l.getD i z46).f1 0 < 0))
def agesOkB (l : List S46) : Bool := allFrom (ageOkAt l) l.length 0 && decide ((l.length : Int) ≤ 16)
theorem ageOkAt_of (l : List S46) (i : Nat) (b : Bool) (h : b = true ↔ (1 ≤ (l.getD i z46).f0 ∧ (l.getD i z46).f0 ≤ 60) ∧ ¬ ((i : Int) > 0 ∧ (l.getD (i - 1) z46).f0 ≥ (l.getD i z46).f0) ∧ ((l.getD i z46).f1 = 0 ∨ ¬ ageIdx (l.take i) (l.getD i z46).f1 0 < 0)) : ageOkAt l i = b := by
  rw [Bool.eq_iff_iff, h]
  simp only [ageOkAt, Bool.and_eq_true, decide_eq_true_eq]
theorem rdAge_prev (l : List S46) (i : Nat) (h0 : (i : Int) > 0) (h : i ≤ 4194304) : rd_T46 l (wrap64 ((i : Int) - 1)) = l.getD (i - 1) z46 := by
  rw [w64 (x := (i : Int) - 1) (by omega) (by omega)]
  unfold rd_T46
  congr 1
  omega

theorem impl_AgesOk_ev (l : List S46) (h : okAgeS l) : Ev (fun k => impl_AgesOk.f k l) (agesOkB l) := by
  have h : l.length ≤ 4194304 := h
  refine evAll l.length (fun k i => impl_AgesOk.l0 k l l (l.length : Int) i) (ageOkAt l) (decide ((l.length : Int) ≤ 16)) ?_ ?_ 0 (Nat.zero_le _)
  · intro i hi
    have hr : rd_T46 l (i : Int) = l.getD i z46 := by simp [rd_T46]
    refine ⟨0, 1, fun k _ => ?_⟩
    have hk := w64s i (by omega)
    have tail : ((1 ≤ (l.getD i z46).f0 ∧ (l.getD i z46).f0 ≤ 60) ∧ ¬ ((i : Int) > 0 ∧ (l.getD (i - 1) z46).f0 ≥ (l.getD i z46).f0)) →
        (if (l.getD i z46).f1 = 0 then impl_AgesOk.l0 k l l (l.length : Int) (wrap64 ((i : Int) + 1)) else if (i : Int) ≤ (l.length : Int) then (impl_AgeAt.f (l.take (i : Int).toNat) (l.getD i z46).f1).bind fun t => if t < 0 then some false else impl_AgesOk.l0 k l l (l.length : Int) (wrap64 ((i : Int) + 1)) else none) = if ageOkAt l i = true then impl_AgesOk.l0 k l l (l.length : Int) ((i + 1 : Nat) : Int) else some false := by
      intro hq
      rw [hk, if_pos (show (i : Int) ≤ (l.length : Int) by omega), Int.toNat_natCast]
      simp only [impl_AgeAt.f, Option.bind_some]
      by_cases q3 : (l.getD i z46).f1 = 0
      · rw [if_pos q3, ageOkAt_of l i true (by simp only [true_iff]; exact ⟨hq.1, hq.2, .inl q3⟩)]; simp
      · rw [if_neg q3]
        by_cases q4 : ageIdx (l.take i) (l.getD i z46).f1 0 < 0
        · rw [if_pos q4, ageOkAt_of l i false (by simp only [Bool.false_eq_true, false_iff]; exact fun hh => hh.2.2.elim q3 (fun h' => h' q4))]; simp
        · rw [if_neg q4, ageOkAt_of l i true (by simp only [true_iff]; exact ⟨hq.1, hq.2, .inr q4⟩)]; simp
    simp only [impl_AgesOk.l0, hr, impl_within_f, Option.bind_some]
    rw [if_pos (by omega), if_pos (by omega), if_pos (by omega)]
    by_cases q0 : 1 ≤ (l.getD i z46).f0 ∧ (l.getD i z46).f0 ≤ 60
    · rw [decide_eq_true q0, if_pos rfl]
      by_cases q1 : (i : Int) > 0
      · rw [if_pos q1, rdAge_prev l i q1 (by omega), w64 (x := (i : Int) - 1) (by omega) (by omega), if_pos (by omega), if_pos (by omega)]
        by_cases q2 : (l.getD (i - 1) z46).f0 ≥ (l.getD i z46).f0
        · rw [if_pos q2, ageOkAt_of l i false (by simp only [Bool.false_eq_true, false_iff]; exact fun hh => hh.2.1 ⟨q1, q2⟩)]; simp
        · rw [if_neg q2]; exact tail ⟨q0, fun hh => q2 hh.2⟩
      · rw [if_neg q1]; exact tail ⟨q0, fun hh => q1 hh.1⟩
    · rw [decide_eq_false q0, if_neg (by decide), ageOkAt_of l i false (by simp only [Bool.false_eq_true, false_iff]; exact fun hh => q0 hh.1)]; simp
  · refine ⟨0, 1, fun k _ => ?_⟩
    simp only [impl_AgesOk.l0]
    rw [if_neg (by omega)]

def kidsOf (l : List S46) (a : Int) : List Int := (l.filter fun x => decide (x.f1 = a) && !decide (a = 0)).map fun x => x.f0
theorem kidsOf_length (l : List S46) (a : Int) : (kidsOf l a).length ≤ l.length := by
  unfold kidsOf
  rw [List.length_map]
  exact List.length_filter_le _ _

theorem impl_KidsOf_ev (l : List S46) (a : Int) (h : l.length ≤ 4194304) : Ev (fun k => impl_KidsOf.f k l a) (kidsOf l a) := by
  by_cases h0 : a = 0
  · refine evOf fun k => ?_
    simp only [impl_KidsOf.f, Option.bind_some]
    rw [if_pos h0]
    simp [kidsOf, h0]
  obtain ⟨K, hk⟩ := evRange0 (σ := List Int) l.length (fun k s i => impl_KidsOf.l0 k a s l (l.length : Int) i) (fun i s => s.length ≤ i) (fun i s => s ++ kidsOf (l.drop i) a) [] (by simp)
    (by
      intro i s hi hs
      have hd := drop_getD l i z46 hi
      have hr : rd_T46 l (i : Int) = l.getD i z46 := by simp [rd_T46]
      generalize l.getD i z46 = y at *
      by_cases h1 : y.f1 = a
      · refine .inl ⟨s ++ [y.f0], by simp; omega, ?_, 0, 1, fun k _ => ?_⟩
        · rw [hd, kidsOf, kidsOf, List.filter_cons_of_pos (by simp [h1, h0]), List.map_cons, List.append_assoc]; rfl
        · simp only [impl_KidsOf.l0, hr]
          rw [if_pos (by omega), if_pos (by omega), if_pos (by omega), if_pos h1, if_pos (by omega), w64s i (by omega)]
      · refine .inl ⟨s, by omega, ?_, 0, 1, fun k _ => ?_⟩
        · rw [hd, kidsOf, kidsOf, List.filter_cons_of_neg (by simp [h1])]
        · simp only [impl_KidsOf.l0, hr]
          rw [if_pos (by omega), if_pos (by omega), if_pos (by omega), if_neg h1, w64s i (by omega)])
    (by
      intro s _
      refine ⟨0, 1, fun k _ => ?_⟩
      simp only [impl_KidsOf.l0]
      rw [if_neg (by omega)]
      simp [kidsOf])
  refine ⟨K, fun k hk' => ?_⟩
  simp only [impl_KidsOf.f, Option.bind_some]
  rw [if_neg h0]
  exact hk k hk'

def pathOf (l : List S46) : Nat → Int → List Int
  | 0, _ => []
  | n + 1, a => if ageIdx l a 0 < 0 then [] else a :: pathOf l n (l.getD (ageIdx l a 0).toNat z46).f1
theorem pathOf_length (l : List S46) : ∀ n a, (pathOf l n a).length ≤ n
  | 0, _ => Nat.le_refl _
  | n + 1, a => by
    unfold pathOf
    by_cases h : ageIdx l a 0 < 0
    · rw [if_pos h]; exact Nat.zero_le _
    · rw [if_neg h, List.length_cons]
      exact Nat.succ_le_succ (pathOf_length l n _)

theorem impl_PathOf_ev (l : List S46) (a : Int) (h : okAgeS l) : Ev (fun k => impl_PathOf.f k l a) (pathOf l (l.length + 1) a) := by
  have h : l.length ≤ 4194304 := h
  obtain ⟨K, hk⟩ := evRange0 (σ := Int × List Int) (l.length + 1) (fun k s i => impl_PathOf.l0 k l s.1 s.2 ((l.length + 1 : Nat) : Int) i) (fun i s => s.2.length ≤ i) (fun i s => s.2 ++ pathOf l (l.length + 1 - i) s.1) (a, []) (by simp)
    (by
      intro i s hi hs
      obtain ⟨id, out⟩ := s
      have hs : out.length ≤ i := hs
      rw [show l.length + 1 - i = (l.length + 1 - (i + 1)) + 1 by omega]
      rcases ageIdx_cases l id 0 with e | ⟨j, hj, e, hx⟩
      · refine .inr ⟨0, 1, fun k _ => ?_⟩
        simp only [impl_PathOf.l0, impl_AgeAt.f, Option.bind_some, pathOf]
        rw [if_pos (by omega), if_pos (by omega), if_pos (by omega), List.append_nil]
      · rw [Nat.zero_add] at e
        have hr : rd_T46 l (j : Int) = l.getD j z46 := by simp [rd_T46]
        refine .inl ⟨((l.getD j z46).f1, out ++ [id]), by simp; omega, ?_, 0, 1, fun k _ => ?_⟩
        · simp only [pathOf]
          rw [if_neg (by omega), e, Int.toNat_natCast, List.append_assoc]; rfl
        · simp only [impl_PathOf.l0, impl_AgeAt.f, Option.bind_some, e, hr]
          rw [if_pos (by omega), if_neg (by omega), if_pos (by omega), if_pos (by omega), if_pos (by omega), w64s i (by omega)])
    (by
      intro s _
      refine ⟨0, 1, fun k _ => ?_⟩
      simp only [impl_PathOf.l0]
      rw [if_neg (by omega), Nat.sub_self]
      simp [pathOf])
  refine ⟨K, fun k hk' => ?_⟩
  have := hk k hk'
  simp only [impl_PathOf.f]
  rw [w64s l.length (by omega)]
  simpa using this

theorem slices_Contains_ev (l : List Int) (a : Int) (h : okIntS l) : Ev (fun k => slices_Contains_int_int.f k l a) (l.contains a) := by
  have h : l.length ≤ 4194304 := h
  have : ∃ r : Int, (decide (r ≥ 0) = l.contains a) ∧ Ev (fun k => slices_Index_int_int.l0 k l a (l.length : Int) 0) r := by
    have := evRangeEx (σ := Unit) l.length (fun k _ i => slices_Index_int_int.l0 k l a (l.length : Int) i) (fun i _ => l.contains a = (l.drop i).contains a) (fun r => decide (r ≥ 0) = l.contains a)
      (by
        intro i _ hi hc
        have hd := drop_getD l i 0 hi
        have hr : rd l (i : Int) = l.getD i 0 := by simp [rd]
        generalize l.getD i 0 = y at *
        by_cases h1 : a = y
        · refine .inr ⟨(i : Int), ?_, 0, 1, fun k _ => ?_⟩
          · rw [hc, hd, decide_eq_true (by omega)]; simp [h1]
          · simp only [slices_Index_int_int.l0, hr]
            rw [if_pos (by omega), if_pos (by omega), if_pos (by omega), if_pos h1]
        · refine .inl ⟨(), ?_, 0, 1, fun k _ => ?_⟩
          · rw [hc, hd, List.contains_cons, show (a == y) = false by simpa using h1, Bool.false_or]
          · simp only [slices_Index_int_int.l0, hr]
            rw [if_pos (by omega), if_pos (by omega), if_pos (by omega), if_neg h1, w64s i (by omega)])
      (by
        intro _ hc
        refine ⟨-1, ?_, 0, 1, fun k _ => ?_⟩
        · rw [hc, List.drop_length]; rfl
        · simp only [slices_Index_int_int.l0]
          rw [if_neg (by omega)]) 0 () (Nat.zero_le _) (by simp)
    exact this
  obtain ⟨r, hr, K, hk⟩ := this
  refine ⟨K, fun k hk' => ?_⟩
  simp only [slices_Contains_int_int.f, slices_Index_int_int.f, hk k hk', Option.bind_some, hr]

theorem impl_IsFrom_ev (l : List S46) (a b : Int) (ho : okAgeS l) (h1 : l.length ≤ 2097152) : Ev (fun k => impl_IsFrom.f k l a b) ((pathOf l (l.length + 1) b).contains a) := by
  have hp := pathOf_length l (l.length + 1) b
  unfold impl_IsFrom.f
  refine Ev.bind (impl_PathOf_ev l b ho) ?_
  refine Ev.bind (slices_Contains_ev _ a (by unfold okIntS; omega)) ?_
  exact Ev.now _

def cutFix (id frm : Int) (x : S46) : S46 := if x.f1 = id then ⟨x.f0, frm⟩ else x
def cutTail (id frm : Int) (m : Nat) (l : List S46) (i : Nat) : List S46 := if i ≤ m then ((l.map (cutFix id frm)).drop i).eraseIdx (m - i) else (l.map (cutFix id frm)).drop i
def cutAge (l : List S46) (id : Int) : List S46 × Bool := if ageIdx l id 0 < 0 then (l, false) else if agesOkB l = true then ((l.map (cutFix id (l.getD (ageIdx l id 0).toNat z46).f1)).eraseIdx (ageIdx l id 0).toNat, true) else (l, false)
theorem ageIdx_at0 (l : List S46) (a : Int) (h : ¬ ageIdx l a 0 < 0) : ∃ m, ageIdx l a 0 = ((m : Nat) : Int) ∧ m < l.length := by
  rcases ageIdx_cases l a 0 with e | ⟨i, hi, e, _⟩
  · omega
  · exact ⟨i, by rw [e]; omega, hi⟩

theorem impl_CutAge_ev (l : List S46) (id : Int) (h : okAgeS l) : Ev (fun k => impl_CutAge.f k l id) (cutAge l id) := by
  have hl : l.length ≤ 4194304 := h
  obtain ⟨K2, h2⟩ := impl_AgesOk_ev l h
  have hcp : impl_copyAges.f l = some l := by
    simp only [impl_copyAges.f, Option.bind_some, List.length_nil, List.nil_append]
    rw [if_pos (by omega)]
  by_cases q : ageIdx l id 0 < 0
  · refine ⟨1, fun k hk => ?_⟩
    obtain ⟨k, rfl⟩ : ∃ m, k = m + 1 := ⟨k - 1, by omega⟩
    simp only [impl_CutAge.f, impl_AgeAt.f, hcp, Option.bind_some]
    rw [if_pos q]
    simp only [impl_CutAge.j0, if_true, cutAge, if_pos q]
  obtain ⟨m, hm, hml⟩ := ageIdx_at0 l id q
  by_cases q2 : agesOkB l = true
  · obtain ⟨K3, h3⟩ := evRange0 (σ := List S46) l.length (fun k s i => impl_CutAge.l0 k l id (m : Int) s (l.length : Int) i) (fun i s => s = (l.map (cutFix id (l.getD m z46).f1)).take i ++ l.drop i) (fun i s => ((l.map (cutFix id (l.getD m z46).f1)).eraseIdx m, true)) l (by simp)
      (by
        intro i s hi hs
        have hr2 : rd_T46 l (m : Int) = l.getD m z46 := by simp [rd_T46]
        have hlen : s.length = l.length := by rw [hs]; simp; omega
        have hd := drop_getD l i z46 hi
        have htl : ((l.map (cutFix id (l.getD m z46).f1)).take i).length = i := by simp; omega
        have hr : rd_T46 s (i : Int) = l.getD i z46 := by
          unfold rd_T46
          rw [Int.toNat_natCast, hs, List.getD_eq_getElem?_getD, List.getElem?_append_right (by omega), htl, Nat.sub_self, hd]
          rfl
        have htk : (l.map (cutFix id (l.getD m z46).f1)).take (i + 1) = (l.map (cutFix id (l.getD m z46).f1)).take i ++ [cutFix id (l.getD m z46).f1 (l.getD i z46)] := by
          rw [take_getD _ i z46 (by simpa using hi)]
          congr 2
          have e1 : ∀ (a : List S46) (h : i < a.length), a.getD i z46 = a[i] := fun a h => by rw [List.getD_eq_getElem?_getD, List.getElem?_eq_getElem h]; rfl
          rw [e1 _ (by simpa using hi), e1 l hi, List.getElem_map]
        have hset : ∀ x, s.set i x = (l.map (cutFix id (l.getD m z46).f1)).take i ++ x :: l.drop (i + 1) := by
          intro x
          rw [hs, List.set_append_right _ _ (by omega), htl, Nat.sub_self, hd]
          rfl
        refine .inl ⟨s.set i (cutFix id (l.getD m z46).f1 (l.getD i z46)), ?_, rfl, 0, 1, fun k _ => ?_⟩
        · rw [hset, htk, List.append_assoc]; rfl
        · simp only [impl_CutAge.l0, hr, hr2]
          rw [if_pos (by omega), if_pos (by omega), if_pos (by omega), w64s i (by omega)]
          have hself : s.set i (l.getD i z46) = s := by rw [hset, ← hd, ← hs]
          generalize l.getD i z46 = y at *
          generalize l.getD m z46 = ym at *
          by_cases q3 : y.f1 = id
          · rw [if_pos q3, if_pos (by omega), if_pos (by omega), cutFix, if_pos q3, Int.toNat_natCast]
          · rw [if_neg q3, cutFix, if_neg q3, hself])
      (by
        intro s hs
        refine ⟨0, 1, fun k _ => ?_⟩
        have hs2 : s = l.map (cutFix id (l.getD m z46).f1) := by rw [hs, List.drop_length, List.append_nil, List.take_of_length_le (by simp)]
        have hlen : s.length = l.length := by rw [hs2, List.length_map]
        simp only [impl_CutAge.l0, impl_Age_54.f]
        rw [if_neg (by omega), w64s m (by omega), if_pos (by omega), if_pos (by omega), if_pos (by omega)]
        simp only [Option.bind_some, Int.toNat_natCast, hs2])
    refine ⟨K2 + K3 + 1, fun k hk => ?_⟩
    have a2 := h2 k (by omega)
    have a3 := h3 (k - 1) (by omega)
    simp only at a2 a3
    obtain ⟨k, rfl⟩ : ∃ m, k = m + 1 := ⟨k - 1, by omega⟩
    simp only [impl_CutAge.f, impl_AgeAt.f, hcp, Option.bind_some]
    rw [if_neg q]
    simp only [a2, q2, Option.bind_some, Bool.not_true, impl_CutAge.j0, Bool.false_eq_true, if_false, hm]
    rw [Nat.add_sub_cancel] at a3
    rw [a3, cutAge, if_neg q, if_pos q2, hm]
    rfl
  · refine ⟨K2 + 1, fun k hk => ?_⟩
    have a2 := h2 k (by omega)
    simp only at a2
    have q3 : agesOkB l = false := by simpa using q2
    obtain ⟨k, rfl⟩ : ∃ m, k = m + 1 := ⟨k - 1, by omega⟩
    simp only [impl_CutAge.f, impl_AgeAt.f, hcp, Option.bind_some]
    rw [if_neg q]
    simp only [a2, q3, Option.bind_some, Bool.not_false, impl_CutAge.j0, if_true]
    rw [cutAge, if_neg q, if_neg q2]

def bytesIn (l : List Int) : Prop := ∀ x ∈ l, 0 ≤ x ∧ x ≤ 255
def getW (l : List Int) (a : Int) : Int × Int × Bool := if 0 ≤ a ∧ a ≤ (l.length : Int) - 2 then (l.getD a.toNat 0 * 256 + l.getD (a.toNat + 1) 0, a + 2, true) else (0, 0, false)

/-! The cursor of a draw: bytes, how far, a number that follows from them. -/
def curOk (b : List Int) (i : Int) : Prop := bytesIn b ∧ b.length ≤ 1048576 ∧ 0 ≤ i ∧ i ≤ (b.length : Int)

theorem l1New_ex (b : List Int) (hb : bytesIn b) (hl : b.length ≤ 1048576) : ∃ h, Ev (fun k => spec_l1New.f k b) (b, 0, h) := by
  obtain ⟨r, ⟨h, rfl⟩, K, hk⟩ := evRangeEx (σ := Int) b.length (fun k s i => spec_l1New.l0 k b s i) (fun _ _ => True) (fun r => ∃ h, r = (b, 0, h))
    (by
      intro i s hi _
      by_cases c : i < 4000
      · refine .inl ⟨Go.bits .and .i64 (wrap64 ((wrap64 ((wrap64 (s * 137)) + (wrap64 (rd b (i : Int))))) + 11)) 1073741823, trivial, 0, 1, fun k _ => ?_⟩
        simp only [spec_l1New.l0]
        rw [if_pos (by omega), if_pos (by omega), if_pos (by omega), w64s i (by omega)]
      · refine .inr ⟨(b, 0, s), ⟨s, rfl⟩, 0, 1, fun k _ => ?_⟩
        simp only [spec_l1New.l0]
        rw [if_pos (by omega), if_neg (by omega)])
    (by
      intro s _
      refine ⟨(b, 0, s), ⟨s, rfl⟩, 0, 1, fun k _ => ?_⟩
      simp only [spec_l1New.l0]
      rw [if_neg (by omega)]) 0 (wrap64 (941941 + (b.length : Int))) (Nat.zero_le _) trivial
  exact ⟨h, K, fun k hk' => hk k hk'⟩

theorem spec_AgeAt_ev (l : List S46) (a : Int) (h : okAgeS l) : Ev (fun k => spec_AgeAt.f k l a) (ageIdx l a 0) := by
  have h : l.length ≤ 4194304 := h
  obtain ⟨K, hk⟩ := evRange0 (σ := Unit) l.length (fun k _ i => spec_AgeAt.l0 k l a i) (fun _ _ => True) (fun i _ => ageIdx (l.drop i) a i) () trivial
    (by
      intro i _ hi _
      have hat := ageIdx_at l a i i hi
      have hr : rd_T46 l (i : Int) = l.getD i z46 := by simp [rd_T46]
      generalize l.getD i z46 = y at *
      by_cases h1 : y.f0 = a
      · refine .inr ⟨0, 1, fun k _ => ?_⟩
        simp only [spec_AgeAt.l0, hr]
        rw [if_pos (by omega), if_pos (by omega), if_pos h1, hat, if_pos h1]
      · refine .inl ⟨(), trivial, ?_, 0, 1, fun k _ => ?_⟩
        · rw [hat, if_neg h1]
        · simp only [spec_AgeAt.l0, hr]
          rw [if_pos (by omega), if_pos (by omega), if_neg h1, w64s i (by omega)])
    (by
      intro _ _
      refine ⟨0, 1, fun k _ => ?_⟩
      simp only [spec_AgeAt.l0]
      rw [if_neg (by omega), List.drop_length]
      rfl)
  exact ⟨K, fun k hk' => hk k hk'⟩

theorem spec_l1In_f (a b c : Int) : spec_l1In.f a b c = some (decide (b ≤ a ∧ a ≤ c)) := by
  unfold spec_l1In.f
  by_cases h : a ≥ b
  · rw [if_pos h]; congr 1; rw [Bool.eq_iff_iff]; simp; omega
  · rw [if_neg h]; congr 1; rw [Bool.eq_iff_iff]; simp; omega

theorem spec_AgesOk_ev (l : List S46) (h : okAgeS l) : Ev (fun k => spec_AgesOk.f k l) (agesOkB l) := by
  have ho := h
  have h : l.length ≤ 4194304 := h
  refine evAll l.length (fun k i => spec_AgesOk.l0 k l i) (ageOkAt l) (decide ((l.length : Int) ≤ 16)) ?_ ?_ 0 (Nat.zero_le _)
  · intro i hi
    have hr : rd_T46 l (i : Int) = l.getD i z46 := by simp [rd_T46]
    obtain ⟨K, hK⟩ := spec_AgeAt_ev (l.take i) (l.getD i z46).f1 (by unfold okAgeS; rw [List.length_take]; omega)
    refine ⟨K, 2, fun k hk' => ?_⟩
    have hk := w64s i (by omega)
    have tail : ((1 ≤ (l.getD i z46).f0 ∧ (l.getD i z46).f0 ≤ 60) ∧ ¬ ((i : Int) > 0 ∧ (l.getD (i - 1) z46).f0 ≥ (l.getD i z46).f0)) →
        spec_AgesOk.j1 (k + 1) l i false = if ageOkAt l i = true then spec_AgesOk.l0 k l ((i + 1 : Nat) : Int) else some false := by
      intro hq
      simp only [spec_AgesOk.j1, hr, hk, Int.toNat_natCast, hK k hk', Option.bind_some]
      rw [if_neg (by decide), if_pos (by omega), if_pos (by omega), if_pos (show (i : Int) ≤ (l.length : Int) by omega)]
      by_cases q3 : (l.getD i z46).f1 = 0
      · rw [if_pos q3, ageOkAt_of l i true (by simp only [true_iff]; exact ⟨hq.1, hq.2, .inl q3⟩)]; simp
      · rw [if_neg q3]
        by_cases q4 : ageIdx (l.take i) (l.getD i z46).f1 0 < 0
        · rw [if_pos q4, ageOkAt_of l i false (by simp only [Bool.false_eq_true, false_iff]; exact fun hh => hh.2.2.elim q3 (fun h' => h' q4))]; simp
        · rw [if_neg q4, ageOkAt_of l i true (by simp only [true_iff]; exact ⟨hq.1, hq.2, .inr q4⟩)]; simp
    have stop : spec_AgesOk.j1 (k + 1) l i true = some false := by simp [spec_AgesOk.j1]
    show spec_AgesOk.l0 (k + 1 + 1) l i = _
    rw [spec_AgesOk.l0]
    simp only [hr, spec_l1In_f, Option.bind_some]
    rw [if_pos (by omega), if_pos (by omega)]
    by_cases q0 : 1 ≤ (l.getD i z46).f0 ∧ (l.getD i z46).f0 ≤ 60
    · rw [decide_eq_true q0, if_pos rfl]
      by_cases q1 : (i : Int) > 0
      · rw [if_pos q1, rdAge_prev l i q1 (by omega), w64 (x := (i : Int) - 1) (by omega) (by omega), if_pos (by omega), if_pos (by omega)]
        by_cases q2 : (l.getD (i - 1) z46).f0 ≥ (l.getD i z46).f0
        · rw [decide_eq_true q2, stop, ageOkAt_of l i false (by simp only [Bool.false_eq_true, false_iff]; exact fun hh => hh.2.1 ⟨q1, q2⟩)]; simp
        · rw [decide_eq_false q2]; exact tail ⟨q0, fun hh => q2 hh.2⟩
      · rw [if_neg q1]; exact tail ⟨q0, fun hh => q1 hh.1⟩
    · rw [decide_eq_false q0, if_neg (by decide), stop, ageOkAt_of l i false (by simp only [Bool.false_eq_true, false_iff]; exact fun hh => q0 hh.1)]; simp
  · refine ⟨0, 1, fun k _ => ?_⟩
    simp only [spec_AgesOk.l0]
    rw [if_neg (by omega)]

def insAge (id frm : Int) : List S46 → List S46
  | [] => [⟨id, frm⟩]
  | x :: xs => if x.f0 > id then ⟨id, frm⟩ :: x :: xs else x :: insAge id frm xs
theorem insAge_length (id frm : Int) : ∀ l : List S46, (insAge id frm l).length = l.length + 1
  | [] => rfl
  | x :: xs => by
    unfold insAge
    by_cases h : x.f0 > id
    · rw [if_pos h]; rfl
    · rw [if_neg h, List.length_cons, insAge_length id frm xs]; rfl
def newAgeFin (l : List S46) (id : Int) (out : List S46) : List S46 × Bool := if 0 ≤ ageIdx l id 0 then (l, false) else if agesOkB out = true then (out, true) else (l, false)
def newAge (l : List S46) (id frm : Int) : List S46 × Bool := newAgeFin l id (insAge id frm l)
theorem newAge_j1 (l out : List S46) (id : Int) (ho : okAgeS l) (hout : okAgeS out) : Ev (fun k => spec_NewAge.j1 k l id out) (newAgeFin l id out) := by
  have hl : l.length ≤ 4194304 := ho
  obtain ⟨K1, h1⟩ := spec_AgeAt_ev l id ho
  obtain ⟨K2, h2⟩ := spec_AgesOk_ev out hout
  refine evSucc ⟨K1 + K2, 1, fun k hk => ?_⟩
  simp only [spec_NewAge.j1, h1 k (by omega), h2 k (by omega), Option.bind_some, newAgeFin, List.length_nil, List.nil_append]
  by_cases q : ageIdx l id 0 ≥ 0
  · rw [if_pos q, if_pos (show 0 ≤ ageIdx l id 0 from q), if_pos (show 0 + l.length < 8796093022208 by omega)]
  · rw [if_neg q, if_neg (show ¬ 0 ≤ ageIdx l id 0 by omega)]
    by_cases q2 : agesOkB out = true
    · rw [if_pos q2, if_pos q2]
    · rw [if_neg q2, if_neg q2, if_pos (show 0 + l.length < 8796093022208 by omega)]
theorem newAge_go (l : List S46) (id frm : Int) (h : l.length ≤ 1048576) (b : Bool) : Ev (fun k => spec_NewAge.l0 k l id frm [] b 0) (newAgeFin l id (if b = true then l else insAge id frm l)) := by
  have ho : okAgeS l := by unfold okAgeS; omega
  obtain ⟨K, hk⟩ := evRange0 (σ := List S46 × Bool) l.length (fun k s i => spec_NewAge.l0 k l id frm s.1 s.2 i) (fun i s => s.1.length ≤ 2 * i) (fun i s => newAgeFin l id (s.1 ++ if s.2 = true then l.drop i else insAge id frm (l.drop i))) ([], b) (by simp)
    (by
      intro i s hi hs
      obtain ⟨out, d⟩ := s
      have hs : out.length ≤ 2 * i := hs
      have hd := drop_getD l i z46 hi
      have hr : rd_T46 l (i : Int) = l.getD i z46 := by simp [rd_T46]
      generalize l.getD i z46 = y at *
      cases d with
      | true =>
        refine .inl ⟨(out ++ [y], true), by simp; omega, ?_, 0, 1, fun k _ => ?_⟩
        · simp only [if_true]; rw [hd, List.append_assoc]; rfl
        · simp only [spec_NewAge.l0, hr, if_true]
          rw [if_pos (by omega), if_pos (by omega), if_pos (by omega), w64s i (by omega)]
      | false =>
        by_cases q : y.f0 > id
        · refine .inl ⟨(out ++ [⟨id, frm⟩] ++ [y], true), by simp; omega, ?_, 0, 1, fun k _ => ?_⟩
          · simp only [if_true, Bool.false_eq_true, if_false]; rw [hd, insAge, if_pos q, List.append_assoc, List.append_assoc]; rfl
          · simp only [spec_NewAge.l0, hr, Bool.false_eq_true, if_false, Option.bind_some]
            rw [if_pos (by omega), if_pos (by omega), if_pos q, if_pos (by omega), if_pos (by simp; omega), w64s i (by omega)]
        · refine .inl ⟨(out ++ [y], false), by simp; omega, ?_, 0, 1, fun k _ => ?_⟩
          · simp only [Bool.false_eq_true, if_false]; rw [hd, insAge, if_neg q, List.append_assoc]; rfl
          · simp only [spec_NewAge.l0, hr, Bool.false_eq_true, if_false]
            rw [if_pos (by omega), if_pos (by omega), if_neg q, if_pos (by omega), w64s i (by omega)])
    (by
      intro s hs
      obtain ⟨out, d⟩ := s
      have hs : out.length ≤ 2 * l.length := hs
      cases d with
      | true =>
        obtain ⟨K, hK⟩ := newAge_j1 l out id ho (by unfold okAgeS; omega)
        refine ⟨K, 1, fun k hk => ?_⟩
        simp only [spec_NewAge.l0, if_true, hK k hk]
        rw [if_neg (by omega), List.drop_length, List.append_nil]
      | false =>
        obtain ⟨K, hK⟩ := newAge_j1 l (out ++ [⟨id, frm⟩]) id ho (by unfold okAgeS; simp; omega)
        refine ⟨K, 1, fun k hk => ?_⟩
        simp only [spec_NewAge.l0, Bool.false_eq_true, if_false, hK k hk]
        rw [if_neg (by omega), if_pos (by omega), List.drop_length]
        rfl)
  refine ⟨K, fun k hk' => ?_⟩
  have := hk k hk'
  simpa using this
theorem spec_NewAge_ev (l : List S46) (id frm : Int) (h : l.length ≤ 1048576) : Ev (fun k => spec_NewAge.f k l id frm) (newAge l id frm) := by
  have ho : okAgeS l := by unfold okAgeS; omega
  obtain ⟨K1, h1⟩ := spec_AgeAt_ev l id ho
  obtain ⟨K2, h2⟩ := newAge_go l id frm h (decide (ageIdx l id 0 ≥ 0))
  refine ⟨K1 + K2, fun k hk => ?_⟩
  have h2 := h2 k (by omega)
  simp only [spec_NewAge.f, h1 k (by omega), Option.bind_some, newAge]
  rw [show newAgeFin l id (insAge id frm l) = newAgeFin l id (if decide (ageIdx l id 0 ≥ 0) = true then l else insAge id frm l) from ?_]
  · exact h2
  · by_cases q : ageIdx l id 0 ≥ 0
    · unfold newAgeFin; rw [if_pos q, if_pos q]
    · rw [decide_eq_false q, if_neg (by decide)]

theorem l1Byte_ex (b : List Int) (i h : Int) (hc : curOk b i) : ∃ x j g, spec_l1Byte.f b i h = some (x, j, g) ∧ (0 ≤ x ∧ x ≤ 255) ∧ curOk b j := by
  obtain ⟨hb, hl, h0, h1⟩ := hc
  unfold spec_l1Byte.f
  simp only [and255]
  by_cases c : i < (b.length : Int)
  · rw [if_pos c, if_pos h0]
    exact ⟨_, _, _, rfl, ⟨by omega, by omega⟩, hb, hl, by rw [w64 (by omega) (by omega)]; omega, by rw [w64 (by omega) (by omega)]; omega⟩
  · rw [if_neg c]
    exact ⟨_, _, _, rfl, ⟨by omega, by omega⟩, hb, hl, h0, h1⟩

theorem l1Below_ex (b : List Int) (i h n : Int) (hc : curOk b i) (hn : n ≤ 9223372036854775807) : ∃ x j g, spec_l1Below.f b i h n = some (x, j, g) ∧ (0 ≤ x ∧ (0 < n → x < n) ∧ (n ≤ 0 → x = 0)) ∧ curOk b j := by
  unfold spec_l1Below.f
  by_cases c : n ≤ 0
  · rw [if_pos c]; exact ⟨_, _, _, rfl, ⟨by omega, by omega, fun _ => rfl⟩, hc⟩
  rw [if_neg c]
  by_cases c2 : n ≤ 256
  · rw [if_pos c2]
    obtain ⟨x, j, g, e, hx, hj⟩ := l1Byte_ex b i h hc
    simp only [e, Option.bind_some]
    rw [if_neg (by omega)]
    have h1 := Int.tmod_nonneg (b := n) hx.1
    have h2 := Int.tmod_lt_of_pos x (show 0 < n by omega)
    exact ⟨_, _, _, rfl, ⟨h1, fun _ => h2, fun h => by omega⟩, hj⟩
  · rw [if_neg c2]
    obtain ⟨x, j, g, e, hx, hj⟩ := l1Byte_ex b i h hc
    obtain ⟨x2, j2, g2, e2, hx2, hj2⟩ := l1Byte_ex b j g hj
    obtain ⟨x3, j3, g3, e3, hx3, hj3⟩ := l1Byte_ex b j2 g2 hj2
    simp only [e, e2, e3, Option.bind_some]
    rw [if_neg (by omega), w64 (x := x * 65536) (by omega) (by omega), w64 (x := x2 * 256) (by omega) (by omega), w64 (x := x * 65536 + x2 * 256) (by omega) (by omega), w64 (x := x * 65536 + x2 * 256 + x3) (by omega) (by omega)]
    have h1 := Int.tmod_nonneg (b := n) (show 0 ≤ x * 65536 + x2 * 256 + x3 by omega)
    have h2 := Int.tmod_lt_of_pos (x * 65536 + x2 * 256 + x3) (show 0 < n by omega)
    exact ⟨_, _, _, rfl, ⟨h1, fun _ => h2, fun h => by omega⟩, hj3⟩

theorem agesOk_len {l : List S46} (h : agesOkB l = true) : l.length ≤ 16 := by
  unfold agesOkB at h
  rw [Bool.and_eq_true, decide_eq_true_eq] at h
  omega
theorem laws_hasInt_ev (l : List Int) (a : Int) (h : okIntS l) : Ev (fun k => laws_hasInt.f k l a) (l.contains a) := by
  have h : l.length ≤ 4194304 := h
  obtain ⟨K, hk⟩ := evRange0 (σ := Unit) l.length (fun k _ i => laws_hasInt.l0 k l a i) (fun _ _ => True) (fun i _ => (l.drop i).contains a) () trivial
    (by
      intro i _ hi _
      have hd := drop_getD l i 0 hi
      have hr : rd l (i : Int) = l.getD i 0 := by simp [rd]
      generalize l.getD i 0 = y at *
      by_cases h1 : y = a
      · refine .inr ⟨0, 1, fun k _ => ?_⟩
        simp only [laws_hasInt.l0, hr]
        rw [if_pos (by omega), if_pos (by omega), if_pos h1, hd]
        simp [h1]
      · refine .inl ⟨(), trivial, ?_, 0, 1, fun k _ => ?_⟩
        · rw [hd, List.contains_cons, show (a == y) = false by simpa using fun h => h1 h.symm, Bool.false_or]
        · simp only [laws_hasInt.l0, hr]
          rw [if_pos (by omega), if_pos (by omega), if_neg h1, w64s i (by omega)])
    (by
      intro _ _
      refine ⟨0, 1, fun k _ => ?_⟩
      simp only [laws_hasInt.l0]
      rw [if_neg (by omega)]
      simp)
  exact ⟨K, fun k hk' => hk k hk'⟩

theorem impl_NewAge_j1 (l : List S46) (id frm : Int) (h : l.length ≤ 1048576) (i : Nat) (hi : i ≤ l.length) (he : l.take i ++ [⟨id, frm⟩] ++ l.drop i = insAge id frm l) : Ev (fun k => impl_NewAge.j1 k l id frm (i : Int)) (newAge l id frm) := by
  have hcp : impl_copyAges.f l = some l := by
    simp only [impl_copyAges.f, Option.bind_some, List.length_nil, List.nil_append]
    rw [if_pos (by omega)]
  have hins : impl_Age_58.f l (i : Int) [⟨id, frm⟩] = some (insAge id frm l) := by
    unfold impl_Age_58.f
    rw [if_pos (by omega), if_pos (by omega), if_pos (by rfl), if_pos (by omega), Int.toNat_natCast, he]
  obtain ⟨K, hk⟩ := impl_AgesOk_ev (insAge id frm l) (by unfold okAgeS; rw [insAge_length]; omega)
  refine ⟨K + 1, fun k hk' => ?_⟩
  have a := hk (k - 1) (by omega)
  simp only at a
  obtain ⟨k, rfl⟩ : ∃ m, k = m + 1 := ⟨k - 1, by omega⟩
  rw [Nat.add_sub_cancel] at a
  simp only [impl_NewAge.j1, hcp, hins, impl_AgeAt.f, a, Option.bind_some, newAge, newAgeFin]
  by_cases q : ageIdx l id 0 ≥ 0
  · rw [if_pos q, if_pos q]
  · have q' : ¬ 0 ≤ ageIdx l id 0 := q
    rw [if_neg q, if_neg q']
    by_cases q2 : agesOkB (insAge id frm l) = true
    · rw [if_pos q2, if_pos q2]
    · rw [if_neg q2, if_neg q2]
theorem impl_NewAge_ev (l : List S46) (id frm : Int) (h : l.length ≤ 1048576) : Ev (fun k => impl_NewAge.f k l id frm) (newAge l id frm) := by
  obtain ⟨K, hk⟩ := evRange0 (σ := Unit) l.length (fun k _ i => impl_NewAge.l0 k l id frm i) (fun i _ => l.take i ++ insAge id frm (l.drop i) = insAge id frm l) (fun _ _ => newAge l id frm) () (by simp)
    (by
      intro i _ hi hs
      have hd := drop_getD l i z46 hi
      have ht := take_getD l i z46 hi
      have hr : rd_T46 l (i : Int) = l.getD i z46 := by simp [rd_T46]
      generalize l.getD i z46 = y at *
      rw [hd] at hs
      by_cases q : y.f0 ≤ id
      · refine .inl ⟨(), ?_, rfl, 0, 1, fun k _ => ?_⟩
        · rw [ht, List.append_assoc, ← hs, insAge, if_neg (by omega)]
          rfl
        · simp only [impl_NewAge.l0, hr]
          rw [if_pos (by omega), if_pos (by omega), if_pos q, w64s i (by omega)]
      · rw [insAge, if_pos (by omega), ← hd] at hs
        obtain ⟨K, hK⟩ := impl_NewAge_j1 l id frm h i (by omega) (by rw [← hs, List.append_assoc]; rfl)
        refine .inr ⟨K, 1, fun k hk => ?_⟩
        have := hK k hk
        simp only at this
        simp only [impl_NewAge.l0, hr]
        rw [if_pos (by omega), if_pos (by omega), if_neg q, this])
    (by
      intro _ hs
      rw [List.take_length, List.drop_length, insAge] at hs
      obtain ⟨K, hK⟩ := impl_NewAge_j1 l id frm h l.length (Nat.le_refl _) (by rw [List.take_length, List.drop_length, List.append_nil, ← hs])
      refine ⟨K, 1, fun k hk => ?_⟩
      have := hK k hk
      simp only at this
      simp only [impl_NewAge.l0]
      rw [if_neg (by omega), this])
  exact ⟨K, fun k hk' => hk k hk'⟩

theorem sameAges_ev (l : List S46) (h : l.length ≤ 4194304) : Ev (fun k => laws_sameAges.f k l l) true := by
  obtain ⟨K, hk⟩ := evRange0 (σ := Unit) l.length (fun k _ i => laws_sameAges.l0 k l l i) (fun _ _ => True) (fun _ _ => true) () trivial
    (by
      intro i _ hi _
      refine .inl ⟨(), trivial, rfl, 0, 1, fun k _ => ?_⟩
      simp only [laws_sameAges.l0]
      rw [if_pos (by omega), if_pos (by omega), if_pos (by omega), if_neg (by simp), w64s i (by omega)])
    (by
      intro _ _
      refine ⟨0, 1, fun k _ => ?_⟩
      simp only [laws_sameAges.l0]
      rw [if_neg (by omega)])
  refine ⟨K, fun k hk' => ?_⟩
  simp only [laws_sameAges.f, if_true]
  exact hk k hk'

/-! What a right list of versions tells of its paths. -/
theorem agesOk_at {l : List S46} (h : agesOkB l = true) (i : Nat) (hi : i < l.length) : (1 ≤ (l.getD i z46).f0 ∧ (l.getD i z46).f0 ≤ 60) ∧ ¬ ((i : Int) > 0 ∧ (l.getD (i - 1) z46).f0 ≥ (l.getD i z46).f0) ∧ ((l.getD i z46).f1 = 0 ∨ ¬ ageIdx (l.take i) (l.getD i z46).f1 0 < 0) := by
  unfold agesOkB at h
  rw [Bool.and_eq_true] at h
  have := allFrom_iff.1 h.1 i (Nat.zero_le _) hi
  simpa only [ageOkAt, Bool.and_eq_true, decide_eq_true_eq] using this
theorem agesOk_mono {l : List S46} (h : agesOkB l = true) (i : Nat) : ∀ j, i < j → j < l.length → (l.getD i z46).f0 < (l.getD j z46).f0 := by
  intro j
  induction j with
  | zero => intro h0; omega
  | succ j ih =>
    intro h0 h1
    have a := agesOk_at h (j + 1) h1
    have b : (l.getD j z46).f0 < (l.getD (j + 1) z46).f0 := by
      have := a.2.1
      simp only [Nat.add_sub_cancel] at this
      by_cases c : (l.getD j z46).f0 ≥ (l.getD (j + 1) z46).f0
      · exact absurd ⟨by omega, c⟩ this
      · omega
    by_cases e : i = j
    · subst e; exact b
    · exact Int.lt_trans (ih (by omega) (by omega)) b
theorem agesOk_inj {l : List S46} (h : agesOkB l = true) {i j : Nat} (hi : i < l.length) (hj : j < l.length) (e : (l.getD i z46).f0 = (l.getD j z46).f0) : i = j := by
  rcases Nat.lt_trichotomy i j with c | c | c
  · have := agesOk_mono h i j c hj; omega
  · exact c
  · have := agesOk_mono h j i c hi; omega
theorem ageIdx_none (l : List S46) (a : Int) (j : Nat) (h : ageIdx l a j = -1) : ∀ i, i < l.length → (l.getD i z46).f0 ≠ a := by
  induction l generalizing j with
  | nil => intro i hi; simp at hi
  | cons x xs ih =>
    unfold ageIdx at h
    by_cases c : x.f0 = a
    · rw [if_pos c] at h; omega
    · rw [if_neg c] at h
      intro i hi
      cases i with
      | zero => simpa using c
      | succ i => simpa using ih (j + 1) h i (by simpa using hi)
theorem ageIdx_of {l : List S46} (h : agesOkB l = true) (i : Nat) (hi : i < l.length) : ageIdx l (l.getD i z46).f0 0 = (i : Int) := by
  rcases ageIdx_cases l (l.getD i z46).f0 0 with e | ⟨j, hj, e, hx⟩
  · exact absurd rfl (ageIdx_none l _ 0 e i hi)
  · rw [e, Nat.zero_add, agesOk_inj h hj hi hx]
theorem path_zero {l : List S46} (h : agesOkB l = true) (n : Nat) : pathOf l n 0 = [] := by
  cases n with
  | zero => rfl
  | succ n =>
    rcases ageIdx_cases l 0 0 with e | ⟨j, hj, e, hx⟩
    · unfold pathOf; rw [if_pos (by omega)]
    · have := (agesOk_at h j hj).1; omega
theorem parent_of {l : List S46} (h : agesOkB l = true) (i : Nat) (hi : i < l.length) : (l.getD i z46).f1 = 0 ∨ ∃ j, j < i ∧ (l.getD j z46).f0 = (l.getD i z46).f1 := by
  rcases (agesOk_at h i hi).2.2 with e | e
  · exact .inl e
  · rcases ageIdx_cases (l.take i) (l.getD i z46).f1 0 with e' | ⟨j, hj, e', hx⟩
    · omega
    · rw [List.length_take] at hj
      refine .inr ⟨j, by omega, ?_⟩
      rw [← hx, List.getD_eq_getElem?_getD, List.getD_eq_getElem?_getD, List.getElem?_take_of_lt (by omega)]
theorem path_step {l : List S46} (h : agesOkB l = true) (i : Nat) (hi : i < l.length) (n : Nat) : pathOf l (n + 1) (l.getD i z46).f0 = (l.getD i z46).f0 :: pathOf l n (l.getD i z46).f1 := by
  show (if ageIdx l (l.getD i z46).f0 0 < 0 then [] else _ :: _) = _
  rw [ageIdx_of h i hi, if_neg (by omega), Int.toNat_natCast]
theorem path_stable {l : List S46} (h : agesOkB l = true) (i : Nat) : i < l.length → ∀ n, i < n → pathOf l n (l.getD i z46).f0 = pathOf l (l.length + 1) (l.getD i z46).f0 := by
  induction i using Nat.strongRecOn with
  | _ i ih =>
    intro hi n hn
    obtain ⟨m, rfl⟩ : ∃ m, n = m + 1 := ⟨n - 1, by omega⟩
    rw [path_step h i hi, path_step h i hi]
    rcases parent_of h i hi with e | ⟨j, hj, e⟩
    · rw [e, path_zero h, path_zero h]
    · rw [← e, ih j hj (by omega) m (by omega), ih j hj (by omega) l.length (by omega)]
theorem path_of (l : List S46) (a : Int) : (ageIdx l a 0 < 0 ∧ ∀ n, pathOf l n a = []) ∨ ∃ i, i < l.length ∧ a = (l.getD i z46).f0 ∧ ageIdx l a 0 = (i : Int) := by
  rcases ageIdx_cases l a 0 with e | ⟨j, hj, e, hx⟩
  · refine .inl ⟨by omega, fun n => ?_⟩
    cases n with
    | zero => rfl
    | succ n => unfold pathOf; rw [if_pos (by omega)]
  · exact .inr ⟨j, hj, hx.symm, by simpa using e⟩

theorem mem_insAge (id frm : Int) : ∀ (l : List S46) (z : S46), z ∈ insAge id frm l → z ∈ l ∨ z = ⟨id, frm⟩
  | [], z, h => by simp [insAge] at h; exact .inr h
  | x :: xs, z, h => by
    unfold insAge at h
    split at h
    · simp only [List.mem_cons] at h ⊢
      rcases h with h | h | h
      · exact .inr h
      · exact .inl (.inl h)
      · exact .inl (.inr h)
    · simp only [List.mem_cons] at h ⊢
      rcases h with h | h
      · exact .inl (.inl h)
      · exact (mem_insAge id frm xs z h).elim (fun q => .inl (.inr q)) .inr
def okDraw (l : List S46) (n : Nat) : Prop := agesOkB l = true ∧ (∀ x ∈ l, x.f0 ≤ 8) ∧ l.length ≤ n
theorem newAge_okDraw (l : List S46) (id frm : Int) (n m : Nat) (h : okDraw l n) (hi : id ≤ 8) (hn : n + 1 ≤ m) : okDraw (newAge l id frm).1 m := by
  have hl : okDraw l m := ⟨h.1, h.2.1, by have := h.2.2; omega⟩
  unfold newAge newAgeFin
  split
  · exact hl
  · split
    · refine ⟨by assumption, fun z hz => ?_, by rw [insAge_length]; have := h.2.2; omega⟩
      rcases mem_insAge id frm l z hz with q | q
      · exact h.2.1 z q
      · rw [q]; exact hi
    · exact hl
theorem l7Go_ex2 (b : List Int) : ∀ (n : Nat) (l : List S46) (j g : Int), n ≤ 8 → okDraw l (8 - n) → curOk b j → ∃ l' j' g', okDraw l' 8 ∧ curOk b j' ∧ Ev (fun k => spec_l7Draw.l0 k l (n : Int) b j g) (l', j', g')
  | 0, l, j, g, _, hl, hc => ⟨l, j, g, hl, hc, evSucc ⟨0, 1, fun k _ => by simp only [spec_l7Draw.l0]; rw [if_neg (by omega)]⟩⟩
  | n + 1, l, j, g, hn, hl, hc => by
    have hlen := agesOk_len hl.1
    have tail : ∀ (f j g : Int), curOk b j → ∃ l' j' g', okDraw l' 8 ∧ curOk b j' ∧ Ev (fun k => spec_l7Draw.j1 k l ((n + 1 : Nat) : Int) f false b j g) (l', j', g') := by
      intro f j g hc
      obtain ⟨x, j1, g1, e, hx, hj⟩ := l1Below_ex b j g 8 hc (by decide)
      have hx8 := hx.2.1 (by decide)
      obtain ⟨l', j', g', hl', hj', K, hK⟩ := l7Go_ex2 b n (newAge l (1 + x) f).1 j1 g1 (by omega) (newAge_okDraw l _ _ _ _ hl (by omega) (by omega)) hj
      obtain ⟨K2, hK2⟩ := spec_NewAge_ev l (1 + x) f (by omega)
      refine ⟨l', j', g', hl', hj', evSucc ⟨K + K2, 1, fun k hk => ?_⟩⟩
      have a1 := hK k (by omega)
      simp only at a1
      simp only [spec_l7Draw.j1, e, Option.bind_some, Bool.false_eq_true, if_false, w64 (x := 1 + x) (by omega) (by omega), hK2 k (by omega), w64 (x := ((n + 1 : Nat) : Int) - 1) (by omega) (by omega)]
      rw [show ((n + 1 : Nat) : Int) - 1 = (n : Int) by omega]
      exact a1
    have tail2 : ∀ (f j g : Int), 0 < l.length → curOk b j → ∃ l' j' g', okDraw l' 8 ∧ curOk b j' ∧ Ev (fun k => spec_l7Draw.j1 k l ((n + 1 : Nat) : Int) f true b j g) (l', j', g') := by
      intro f j g hpos hc
      obtain ⟨y, j0, g0, e0, hy, hj0⟩ := l1Below_ex b j g (l.length : Int) hc (by omega)
      have hy1 := hy.2.1 (by omega)
      obtain ⟨x, j1, g1, e, hx, hj⟩ := l1Below_ex b j0 g0 8 hj0 (by decide)
      have hx8 := hx.2.1 (by decide)
      obtain ⟨l', j', g', hl', hj', K, hK⟩ := l7Go_ex2 b n (newAge l (1 + x) (rd_T46 l y).f0).1 j1 g1 (by omega) (newAge_okDraw l _ _ _ _ hl (by omega) (by omega)) hj
      obtain ⟨K2, hK2⟩ := spec_NewAge_ev l (1 + x) (rd_T46 l y).f0 (by omega)
      refine ⟨l', j', g', hl', hj', evSucc ⟨K + K2, 1, fun k hk => ?_⟩⟩
      have a1 := hK k (by omega)
      simp only at a1
      simp only [spec_l7Draw.j1, e0, e, Option.bind_some, if_true, w64 (x := 1 + x) (by omega) (by omega), hK2 k (by omega), w64 (x := ((n + 1 : Nat) : Int) - 1) (by omega) (by omega)]
      rw [if_pos hy.1, if_pos hy1, show ((n + 1 : Nat) : Int) - 1 = (n : Int) by omega]
      exact a1
    by_cases c : 0 < l.length
    · obtain ⟨x, j1, g1, e, hx, hj⟩ := l1Below_ex b j g 4 hc (by decide)
      have : ∃ l' j' g', okDraw l' 8 ∧ curOk b j' ∧ Ev (fun k => spec_l7Draw.j1 k l ((n + 1 : Nat) : Int) 0 (!(x == 0)) b j1 g1) (l', j', g') := by
        cases (!(x == 0)) with
        | true => exact tail2 0 j1 g1 c hj
        | false => exact tail 0 j1 g1 hj
      obtain ⟨l', j', g', hl', hj', K, hK⟩ := this
      refine ⟨l', j', g', hl', hj', evSucc ⟨K, 1, fun k hk => ?_⟩⟩
      have a1 := hK k hk
      simp only at a1
      simp only [spec_l7Draw.l0, spec_l1Once.f, e, Option.bind_some]
      rw [if_pos (by omega), if_pos (by omega)]
      exact a1
    · obtain ⟨l', j', g', hl', hj', K, hK⟩ := tail 0 j g hc
      refine ⟨l', j', g', hl', hj', evSucc ⟨K, 1, fun k hk => ?_⟩⟩
      have a1 := hK k hk
      simp only at a1
      simp only [spec_l7Draw.l0]
      rw [if_pos (by omega), if_neg (by omega)]
      exact a1
theorem DrawAges_ex2 (b : List Int) (hb : bytesIn b) (hl : b.length ≤ 1048576) : ∃ l x y, okDraw l 8 ∧ (1 ≤ x ∧ x ≤ 8) ∧ Ev (fun k => spec_DrawAges.f k b) (l, x, y) := by
  obtain ⟨h, K0, e0⟩ := l1New_ex b hb hl
  obtain ⟨n, j1, g1, e1, hn, hj1⟩ := l1Below_ex b 0 h 8 ⟨hb, hl, by omega, by omega⟩ (by decide)
  have hn8 := hn.2.1 (by decide)
  obtain ⟨m, rfl⟩ := Int.eq_ofNat_of_zero_le hn.1
  obtain ⟨l, j2, g2, hok, hj2, K2, e2⟩ := l7Go_ex2 b m [] j1 g1 (by omega) ⟨by rfl, by simp, by simp⟩ hj1
  obtain ⟨x, j3, g3, e3, hx, hj3⟩ := l1Below_ex b j2 g2 8 hj2 (by decide)
  obtain ⟨y, j4, g4, e4, hy, hj4⟩ := l1Below_ex b j3 g3 8 hj3 (by decide)
  have hx8 := hx.2.1 (by decide)
  refine ⟨l, wrap64 (1 + x), wrap64 (1 + y), hok, by rw [w64 (by omega) (by omega)]; omega, K0 + K2, fun k hk => ?_⟩
  have a2 := e2 k (by omega)
  simp only at a2
  simp only [spec_DrawAges.f, spec_l7Draw.f, e0 k (by omega), e1, Option.bind_some, a2, e3, e4]
def okAges (l : List S46) : Prop := l.length ≤ 16 ∧ List.Pairwise (fun x y => x.f0 < y.f0) l ∧ ∀ x ∈ l, (1 ≤ x.f0 ∧ x.f0 ≤ 60) ∧ (x.f1 = 0 ∨ ∃ y ∈ l, y.f0 = x.f1 ∧ y.f0 < x.f0)
theorem getD_at (l : List S46) (i : Nat) (h : i < l.length) : l.getD i z46 = l[i] := by rw [List.getD_eq_getElem?_getD, List.getElem?_eq_getElem h]; rfl
theorem ageIdx_has (l : List S46) (a : Int) : 0 ≤ ageIdx l a 0 ↔ ∃ x ∈ l, x.f0 = a := by
  rcases ageIdx_cases l a 0 with e | ⟨j, hj, e, hx⟩
  · refine ⟨fun h => by omega, fun ⟨x, hx, hxa⟩ => ?_⟩
    obtain ⟨i, hi, rfl⟩ := List.getElem_of_mem hx
    exact absurd (by rw [getD_at l i hi]; exact hxa) (ageIdx_none l a 0 e i hi)
  · refine ⟨fun _ => ⟨l[j], List.getElem_mem hj, by rw [← getD_at l j hj]; exact hx⟩, fun _ => by omega⟩
theorem agesOk_iff (l : List S46) : agesOkB l = true ↔ okAges l := by
  constructor
  · intro h
    refine ⟨?_, ?_, ?_⟩
    · unfold agesOkB at h
      rw [Bool.and_eq_true, decide_eq_true_eq] at h
      omega
    · rw [List.pairwise_iff_getElem]
      intro i j hi hj hij
      have := agesOk_mono h i j hij hj
      rwa [getD_at l i hi, getD_at l j hj] at this
    · intro x hx
      obtain ⟨i, hi, rfl⟩ := List.getElem_of_mem hx
      have h1 := (agesOk_at h i hi).1
      have h2 := parent_of h i hi
      rw [getD_at l i hi] at h1 h2
      refine ⟨h1, h2.imp_right (fun ⟨j, hj, e⟩ => ⟨l[j], List.getElem_mem _, ?_, ?_⟩)⟩
      · rw [← getD_at l j (by omega)]; exact e
      · have := agesOk_mono h j i hj hi
        rwa [getD_at l i hi, getD_at l j (by omega)] at this
  · rintro ⟨h0, h1, h2⟩
    rw [List.pairwise_iff_getElem] at h1
    unfold agesOkB
    rw [Bool.and_eq_true, decide_eq_true_eq]
    refine ⟨allFrom_iff.2 fun i _ hi => ?_, by omega⟩
    rw [ageOkAt_of l i true]
    simp only [true_iff]
    have h3 := h2 l[i] (List.getElem_mem hi)
    rw [getD_at l i hi]
    refine ⟨h3.1, fun hh => ?_, h3.2.imp_right (fun ⟨y, hy, e, hlt⟩ => ?_)⟩
    · have := h1 (i - 1) i (by omega) hi (by omega)
      rw [getD_at l (i - 1) (by omega)] at hh
      omega
    · have : 0 ≤ ageIdx (l.take i) l[i].f1 0 := by
        rw [ageIdx_has]
        obtain ⟨j, hj, rfl⟩ := List.getElem_of_mem hy
        have hji : j < i := by
          rcases Nat.lt_trichotomy j i with c | c | c
          · exact c
          · subst c; omega
          · have := h1 i j hi hj c; omega
        exact ⟨l[j], List.mem_take_iff_getElem.2 ⟨j, by omega, rfl⟩, e⟩
      omega
theorem path_none (l : List S46) (q : Int) (h : ¬ ∃ x ∈ l, x.f0 = q) : pathOf l (l.length + 1) q = [] := by
  rw [← ageIdx_has] at h
  rcases path_of l q with ⟨_, hn⟩ | ⟨i, _, _, e⟩
  · exact hn _
  · omega
theorem path_cons {l : List S46} (h : agesOkB l = true) (y : S46) (hy : y ∈ l) : pathOf l (l.length + 1) y.f0 = y.f0 :: pathOf l (l.length + 1) y.f1 := by
  obtain ⟨i, hi, rfl⟩ := List.getElem_of_mem hy
  have h1 := path_step h i hi l.length
  rw [getD_at l i hi] at h1
  rw [h1]
  congr 1
  have h2 := parent_of h i hi
  rw [getD_at l i hi] at h2
  rcases h2 with e | ⟨j, hj, e⟩
  · rw [e, path_zero h, path_zero h]
  · rw [← e, path_stable h j (by omega) l.length (by omega)]
/-- The list without the m-th age: each that came from it comes from where it came from. -/
def cutList (l : List S46) (a : Int) (m : Nat) : List S46 := (l.map (cutFix a (l.getD m z46).f1)).eraseIdx m
theorem cutFix_f0 (a f : Int) (x : S46) : (cutFix a f x).f0 = x.f0 := by unfold cutFix; split <;> rfl
theorem cutFix_f1 (a f : Int) (x : S46) : (cutFix a f x).f1 = if x.f1 = a then f else x.f1 := by unfold cutFix; split <;> rfl
theorem mem_cutList {l : List S46} (h : okAges l) {a : Int} {m : Nat} (hm : m < l.length) (ha : l[m].f0 = a) (z : S46) : z ∈ cutList l a m ↔ ∃ y ∈ l, y.f0 ≠ a ∧ z = cutFix a l[m].f1 y := by
  have h1 := h.2.1
  rw [List.pairwise_iff_getElem] at h1
  unfold cutList
  rw [getD_at l m hm, List.mem_eraseIdx_iff_getElem]
  constructor
  · rintro ⟨i, hi, hne, rfl⟩
    rw [List.length_map] at hi
    refine ⟨l[i], List.getElem_mem hi, ?_, List.getElem_map ..⟩
    rcases Nat.lt_trichotomy i m with c | c | c
    · have := h1 i m hi hm c; omega
    · exact absurd c hne
    · have := h1 m i hm hi c; omega
  · rintro ⟨y, hy, hne, rfl⟩
    obtain ⟨i, hi, rfl⟩ := List.getElem_of_mem hy
    exact ⟨i, by rw [List.length_map]; exact hi, fun e => by subst e; exact hne ha, List.getElem_map ..⟩
theorem okAges_cut {l : List S46} (h : okAges l) {a : Int} {m : Nat} (hm : m < l.length) (ha : l[m].f0 = a) : okAges (cutList l a m) := by
  have hmem := mem_cutList h hm ha
  have hma := h.2.2 l[m] (List.getElem_mem hm)
  refine ⟨?_, ?_, fun z hz => ?_⟩
  · have := List.length_eraseIdx_le (l.map (cutFix a (l.getD m z46).f1)) m
    rw [List.length_map] at this
    exact Nat.le_trans this h.1
  · refine List.Pairwise.sublist (List.eraseIdx_sublist _ _) ?_
    rw [List.pairwise_map]
    exact h.2.1.imp (fun hxy => by rw [cutFix_f0, cutFix_f0]; exact hxy)
  · obtain ⟨y, hy, hne, rfl⟩ := (hmem z).1 hz
    have hy2 := h.2.2 y hy
    rw [cutFix_f0, cutFix_f1]
    refine ⟨hy2.1, ?_⟩
    by_cases q : y.f1 = a
    · rw [if_pos q]
      have hay : a < y.f0 := by
        rcases hy2.2 with e | ⟨p, _, e, hlt⟩
        · omega
        · omega
      rcases hma.2 with e | ⟨p, hp, e, hlt⟩
      · exact .inl e
      · exact .inr ⟨cutFix a l[m].f1 p, (hmem _).2 ⟨p, hp, by omega, rfl⟩, by rw [cutFix_f0]; exact e, by rw [cutFix_f0]; omega⟩
    · rw [if_neg q]
      rcases hy2.2 with e | ⟨p, hp, e, hlt⟩
      · exact .inl e
      · exact .inr ⟨cutFix a l[m].f1 p, (hmem _).2 ⟨p, hp, by omega, rfl⟩, by rw [cutFix_f0]; exact e, by rw [cutFix_f0]; exact hlt⟩
theorem path_cut {l : List S46} (h : okAges l) {a : Int} {m : Nat} (hm : m < l.length) (ha : l[m].f0 = a) : ∀ (N : Nat) (q : Int), q < N → q ≠ a → pathOf (cutList l a m) ((cutList l a m).length + 1) q = (pathOf l (l.length + 1) q).filter (fun p => p != a)
  | 0, q, hq, hne => by
    have h0 : ¬ ∃ x ∈ l, x.f0 = q := fun ⟨x, hx, e⟩ => by have := (h.2.2 x hx).1; omega
    have h1 : ¬ ∃ x ∈ cutList l a m, x.f0 = q := fun ⟨x, hx, e⟩ => by have := ((okAges_cut h hm ha).2.2 x hx).1; omega
    rw [path_none _ _ h0, path_none _ _ h1]
    rfl
  | N + 1, q, hq, hne => by
    have hmem := mem_cutList h hm ha
    by_cases hx : ∃ x ∈ l, x.f0 = q
    · obtain ⟨y, hy, rfl⟩ := hx
      have e1 := path_cons ((agesOk_iff l).2 h) y hy
      have e2 := path_cons ((agesOk_iff _).2 (okAges_cut h hm ha)) (cutFix a l[m].f1 y) ((hmem _).2 ⟨y, hy, hne, rfl⟩)
      rw [cutFix_f0, cutFix_f1] at e2
      have hy2 := h.2.2 y hy
      have hma := h.2.2 l[m] (List.getElem_mem hm)
      rw [e1, e2, List.filter_cons_of_pos (by simpa using hne)]
      congr 1
      by_cases q : y.f1 = a
      · have hay : a < y.f0 := by
          rcases hy2.2 with e | ⟨p, _, e, hlt⟩ <;> omega
        have e3 := path_cons ((agesOk_iff l).2 h) l[m] (List.getElem_mem hm)
        rw [ha] at e3
        have hfa : l[m].f1 < a := by
          rcases hma.2 with e | ⟨p, _, e, hlt⟩ <;> omega
        rw [if_pos q, q, e3, List.filter_cons_of_neg (by simp)]
        exact path_cut h hm ha N _ (by omega) (by omega)
      · rw [if_neg q]
        exact path_cut h hm ha N _ (by rcases hy2.2 with e | ⟨p, _, e, hlt⟩ <;> omega) q
    · have h1 : ¬ ∃ x ∈ cutList l a m, x.f0 = q := fun ⟨x, hx', e⟩ => by
        obtain ⟨y, hy, _, rfl⟩ := (hmem x).1 hx'
        rw [cutFix_f0] at e
        exact hx ⟨y, hy, e⟩
      rw [path_none _ _ hx, path_none _ _ h1]
      rfl
theorem isFrom_cut {l : List S46} (h : okAges l) {a : Int} {m : Nat} (hm : m < l.length) (ha : l[m].f0 = a) (p q : Int) (hp : p ≠ a) (hq : q ≠ a) : (pathOf (cutList l a m) ((cutList l a m).length + 1) q).contains p = (pathOf l (l.length + 1) q).contains p := by
  rw [path_cut h hm ha (q.toNat + 1) q (by omega) hq, Bool.eq_iff_iff, List.contains_iff_mem, List.contains_iff_mem, List.mem_filter]
  exact ⟨fun hh => hh.1, fun hh => ⟨hh, by simpa using hp⟩⟩
theorem insAge_end (id frm : Int) : ∀ l : List S46, (∀ x ∈ l, x.f0 ≤ id) → insAge id frm l = l ++ [⟨id, frm⟩]
  | [], _ => rfl
  | x :: xs, h => by
    rw [insAge, if_neg (by have := h x List.mem_cons_self; omega), insAge_end id frm xs (fun y hy => h y (List.mem_cons_of_mem _ hy))]
    rfl
theorem okAges_new {l : List S46} (h : okDraw l 8) (a : Int) (h0 : 1 ≤ a) (h8 : a ≤ 8) : agesOkB (insAge 40 a l) = decide (∃ x ∈ l, x.f0 = a) := by
  have hl := (agesOk_iff l).1 h.1
  rw [Bool.eq_iff_iff, agesOk_iff, decide_eq_true_eq, insAge_end 40 a l (fun x hx => by have := h.2.1 x hx; omega)]
  constructor
  · rintro ⟨_, _, h3⟩
    rcases (h3 ⟨40, a⟩ (by simp)).2 with e | ⟨y, hy, e, hlt⟩
    · simp only at e; omega
    · simp only at e hlt
      rcases List.mem_append.1 hy with hy | hy
      · exact ⟨y, hy, e⟩
      · simp only [List.mem_singleton] at hy; rw [hy] at hlt; simp at hlt
  · rintro ⟨x, hx, e⟩
    refine ⟨by rw [List.length_append]; have := h.2.2; simp; omega, ?_, fun z hz => ?_⟩
    · rw [List.pairwise_append]
      exact ⟨hl.2.1, by simp, fun u hu v hv => by simp only [List.mem_singleton] at hv; rw [hv]; have := h.2.1 u hu; simp only; omega⟩
    · rcases List.mem_append.1 hz with hz | hz
      · have := hl.2.2 z hz
        exact ⟨this.1, this.2.imp_right (fun ⟨y, hy, e⟩ => ⟨y, List.mem_append.2 (.inl hy), e⟩)⟩
      · simp only [List.mem_singleton] at hz
        rw [hz]
        exact ⟨by simp only; omega, .inr ⟨x, List.mem_append.2 (.inl hx), e, by simp only; omega⟩⟩
theorem cuts_inner (l : List S46) (a : Int) (x n : List S46) (i : Nat) (hi : i < l.length) (hl : l.length ≤ 16) (hF : ∀ p q, p ≠ a → q ≠ a → ∃ b, Ev (fun k => impl_IsFrom.f k x p q) b ∧ Ev (fun k => impl_IsFrom.f k l p q) b) :
    ∀ (r j : Nat), j + r = l.length → ∃ K d, ∀ k, K ≤ k → laws_FnCuts.l1 (k + d) l a x n (i : Int) (j : Int) = laws_FnCuts.l0 k l a x n ((i + 1 : Nat) : Int)
  | 0, j, hj => ⟨0, 1, fun k _ => by simp only [laws_FnCuts.l1]; rw [if_neg (by omega), w64s i (by omega)]⟩
  | r + 1, j, hj => by
    obtain ⟨K, d, h⟩ := cuts_inner l a x n i hi hl hF r (j + 1) (by omega)
    have hri : rd_T46 l (i : Int) = l.getD i z46 := by simp [rd_T46]
    have hrj : rd_T46 l (j : Int) = l.getD j z46 := by simp [rd_T46]
    by_cases q1 : (l.getD i z46).f0 = a
    · refine ⟨K, d + 1, fun k hk => ?_⟩
      rw [← Nat.add_assoc]
      simp only [laws_FnCuts.l1, hri]
      rw [if_pos (by omega), if_pos (by omega), if_pos (by omega), if_pos q1, w64s j (by omega)]
      exact h k hk
    by_cases q2 : (l.getD j z46).f0 = a
    · refine ⟨K, d + 1, fun k hk => ?_⟩
      rw [← Nat.add_assoc]
      simp only [laws_FnCuts.l1, hri, hrj]
      rw [if_pos (by omega), if_pos (by omega), if_pos (by omega), if_neg q1, if_pos (by omega), if_pos q2, w64s j (by omega)]
      exact h k hk
    · obtain ⟨b, ⟨K1, e1⟩, ⟨K2, e2⟩⟩ := hF _ _ q1 q2
      refine ⟨K + K1 + K2, d + 1, fun k hk => ?_⟩
      have a1 := e1 (k + d) (by omega)
      have a2 := e2 (k + d) (by omega)
      simp only at a1 a2
      rw [← Nat.add_assoc]
      simp only [laws_FnCuts.l1, hri, hrj]
      rw [if_pos (by omega), if_pos (by omega), if_pos (by omega), if_neg q1, if_pos (by omega), if_neg q2, a1, Option.bind_some, a2, Option.bind_some, bne_self_eq_false, if_neg (by decide), w64s j (by omega)]
      exact h k (by omega)
theorem FnCuts (l0 : List Int) (h0 : l0.length ≤ 9223372036854775807 ∧ ∀ x ∈ l0, (Lit.int .u8 x).wf = true) : ∃ k, laws_FnCuts.f k l0 = some true := by
  apply Ev.rounds
  have hb : bytesIn l0 := fun x hx => wf_u8 (h0.2 x hx)
  by_cases c : (l0.length : Int) > 1048576
  · refine evOf fun k => ?_
    simp only [laws_FnCuts.f, laws_big.f, Option.bind_some, decide_eq_true c, if_true]
  have hl : l0.length ≤ 1048576 := by omega
  obtain ⟨l, a, b, hd, ha, K0, e0⟩ := DrawAges_ex2 l0 hb hl
  have hla := (agesOk_iff l).1 hd.1
  have hl8 := hd.2.2
  have ho : okAgeS l := by unfold okAgeS; omega
  obtain ⟨K1, e1⟩ := impl_CutAge_ev l a ho
  obtain ⟨K2, e2⟩ := impl_NewAge_ev l 40 a (by omega)
  have h40 : ¬ 0 ≤ ageIdx l 40 0 := by
    rw [ageIdx_has]
    rintro ⟨x, hx, e⟩
    have := hd.2.1 x hx
    omega
  have hn := okAges_new hd a ha.1 ha.2
  by_cases q : 0 ≤ ageIdx l a 0
  · have hex := (ageIdx_has l a).1 q
    obtain ⟨m, hm, hml⟩ := ageIdx_at0 l a (by omega)
    have ham : l[m].f0 = a := by
      rcases ageIdx_cases l a 0 with e | ⟨j, hj, e, hx⟩
      · omega
      · have : j = m := by omega
        subst this
        rw [← getD_at l j hj]; exact hx
    have hcut : cutAge l a = (cutList l a m, true) := by
      unfold cutAge cutList
      rw [if_neg (by omega), if_pos hd.1, hm, Int.toNat_natCast]
    have hnew : newAge l 40 a = (insAge 40 a l, true) := by
      unfold newAge newAgeFin
      rw [if_neg h40, hn, if_pos (decide_eq_true hex)]
    have hox := okAges_cut hla hml ham
    have hxl : (cutList l a m).length = l.length - 1 := by
      unfold cutList
      rw [List.length_eraseIdx_of_lt (by rw [List.length_map]; exact hml), List.length_map]
    have hno : agesOkB (insAge 40 a l) = true := by rw [hn]; exact decide_eq_true hex
    have hnl := insAge_length 40 a l
    rw [hcut] at e1
    rw [hnew] at e2
    have hF : ∀ p q, p ≠ a → q ≠ a → ∃ b, Ev (fun k => impl_IsFrom.f k (cutList l a m) p q) b ∧ Ev (fun k => impl_IsFrom.f k l p q) b := fun p q hp hq =>
      ⟨_, impl_IsFrom_ev (cutList l a m) p q (by unfold okAgeS; omega) (by omega), by rw [isFrom_cut hla hml ham p q hp hq]; exact impl_IsFrom_ev l p q ho (by omega)⟩
    obtain ⟨K3, e3⟩ := impl_AgesOk_ev (cutList l a m) (by unfold okAgeS; omega)
    obtain ⟨K4, e4⟩ := impl_AgesOk_ev (insAge 40 a l) (by unfold okAgeS; omega)
    obtain ⟨K5, e5⟩ := impl_KidsOf_ev (insAge 40 a l) a (by omega)
    obtain ⟨K6, e6⟩ := laws_hasInt_ev (kidsOf (insAge 40 a l) a) 40 (by have := kidsOf_length (insAge 40 a l) a; unfold okIntS; omega)
    have hx1 : ageIdx (cutList l a m) a 0 = -1 := by
      rcases ageIdx_cases (cutList l a m) a 0 with e | ⟨j, hj, e, hx⟩
      · exact e
      · exfalso
        obtain ⟨z, hz, hza⟩ := (ageIdx_has (cutList l a m) a).1 (by omega)
        obtain ⟨y, _, hya, rfl⟩ := (mem_cutList hla hml ham z).1 hz
        rw [cutFix_f0] at hza
        exact hya hza
    have hkid : (kidsOf (insAge 40 a l) a).contains 40 = true := by
      rw [List.contains_iff_mem]
      unfold kidsOf
      refine List.mem_map.2 ⟨⟨40, a⟩, List.mem_filter.2 ⟨?_, ?_⟩, rfl⟩
      · rw [insAge_end 40 a l (fun x hx => by have := hd.2.1 x hx; omega)]
        simp
      · have : ¬ a = 0 := by omega
        simp [this]
    have hloop : Ev (fun k => laws_FnCuts.l0 k l a (cutList l a m) (insAge 40 a l) 0) true := by
      obtain ⟨K, hk⟩ := evRange0 (σ := Unit) l.length (fun k _ i => laws_FnCuts.l0 k l a (cutList l a m) (insAge 40 a l) i) (fun _ _ => True) (fun _ _ => true) () trivial
        (by
          intro i _ hi _
          obtain ⟨K, d, h⟩ := cuts_inner l a (cutList l a m) (insAge 40 a l) i hi (by omega) hF l.length 0 (by omega)
          refine .inl ⟨(), trivial, rfl, K, d + 1, fun k hk => ?_⟩
          rw [← Nat.add_assoc]
          simp only [laws_FnCuts.l0]
          rw [if_pos (by omega)]
          exact h k hk)
        (by
          intro _ _
          refine ⟨K3 + K4 + K5 + K6, 1, fun k hk => ?_⟩
          have a3 := e3 k (by omega)
          have a4 := e4 k (by omega)
          have a5 := e5 k (by omega)
          have a6 := e6 k (by omega)
          simp only at a3 a4 a5 a6
          simp only [laws_FnCuts.l0, impl_AgeAt.f]
          rw [if_neg (by omega), a3, Option.bind_some, if_pos ((agesOk_iff _).2 hox), Option.bind_some, if_pos hx1, if_pos (by rw [hxl, w64 (by omega) (by omega)]; omega), a4, Option.bind_some, if_pos hno, a5, Option.bind_some, a6, Option.bind_some, hkid])
      exact ⟨K, fun k hk' => hk k hk'⟩
    obtain ⟨K7, e7⟩ := hloop
    refine ⟨K0 + K1 + K2 + K7 + 1, fun k hk => ?_⟩
    have a0 := e0 k (by omega)
    have a1 := e1 k (by omega)
    have a2 := e2 k (by omega)
    have a7 := e7 (k - 1) (by omega)
    simp only at a0 a1 a2 a7
    simp only [laws_FnCuts.f, laws_big.f, Option.bind_some, decide_eq_false c, Bool.false_eq_true, if_false, a0, a1, a2, impl_AgeAt.f, if_true]
    rw [decide_eq_true (show ageIdx l a 0 ≥ 0 from q), decide_eq_true (show (l.length : Int) < 16 by omega), bne_self_eq_false, if_neg (by decide)]
    obtain ⟨k, rfl⟩ : ∃ m, k = m + 1 := ⟨k - 1, by omega⟩
    rw [Nat.add_sub_cancel] at a7
    simp only [laws_FnCuts.j0, Bool.false_eq_true, if_false, if_true]
    exact a7
  · have hex : ¬ ∃ x ∈ l, x.f0 = a := fun h => q ((ageIdx_has l a).2 h)
    have hcut : cutAge l a = (l, false) := by
      unfold cutAge
      rw [if_pos (by omega)]
    have hnew : newAge l 40 a = (l, false) := by
      unfold newAge newAgeFin
      rw [if_neg h40, hn, decide_eq_false hex]
      rfl
    rw [hcut] at e1
    rw [hnew] at e2
    obtain ⟨K3, e3⟩ := sameAges_ev l (by omega)
    refine ⟨K0 + K1 + K2 + K3 + 1, fun k hk => ?_⟩
    have a0 := e0 k (by omega)
    have a1 := e1 k (by omega)
    have a2 := e2 k (by omega)
    have a3 := e3 (k - 1) (by omega)
    simp only at a0 a1 a2 a3
    simp only [laws_FnCuts.f, laws_big.f, Option.bind_some, decide_eq_false c, Bool.false_eq_true, if_false, a0, a1, a2, impl_AgeAt.f]
    rw [decide_eq_false (show ¬ ageIdx l a 0 ≥ 0 from q), bne_self_eq_false, if_neg (by decide)]
    obtain ⟨k, rfl⟩ : ∃ m, k = m + 1 := ⟨k - 1, by omega⟩
    rw [Nat.add_sub_cancel] at a3
    simp only [laws_FnCuts.j0, Bool.false_eq_true, if_false, a3, Option.bind_some, if_true]

end Go.Proofs.Ytpncphhbdkomjaa.Pure
