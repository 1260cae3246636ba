/- Whatever the arguments: the law answers true; said of the plain functions that the print made of the Go text, with no condition but that the arguments are of their kinds. -/
import Derived.Test.YtpncphhbdkomjaaMFnAgesx0
import Derived.Test.YtpncphhbdkomjaaMFnAgesx1
import Derived.Test.YtpncphhbdkomjaaMFnAgesx2
import Derived.Test.YtpncphhbdkomjaaMFnAgesx3
import Derived.Test.YtpncphhbdkomjaaMFnAgesx4
import Derived.Test.YtpncphhbdkomjaaMFnAgesx5
import Derived.Test.YtpncphhbdkomjaaMFnAgesx6
import Derived.Test.YtpncphhbdkomjaaCore
namespace Go.Proofs.Ytpncphhbdkomjaa.Pure
open Go.RowKit Go.Proofs.Ytpncphhbdkomjaa.PFnAges Go.Proofs.Ytpncphhbdkomjaa.Core Go.Proofs.YtpncphhbdkomjaaW.PrintWords Go.Proofs.YtpncphhbdkomjaaW.PrintLast
set_option linter.unusedSimpArgs false
set_option linter.unusedVariables false

theorem impl_within_f (a b c : Int) : impl_within.f a b c = some (decide (b ≤ a ∧ a ≤ c)) := by
  unfold impl_within.f
  by_cases h : a ≥ b
  · rw [if_pos h]; congr 1; rw [Bool.eq_iff_iff]; simp; omega
  · rw [if_neg h]; congr 1; rw [Bool.eq_iff_iff]; simp; omega

def okAgeS (l : List S46) : Prop := l.length ≤ 4194304

def okIntS (l : List Int) : Prop := l.length ≤ 4194304
def cntIntS (l : List Int) : Int := l.length
theorem cntIntS_nn {l : List Int} (h : okIntS l) : 0 ≤ cntIntS l ∧ cntIntS l ≤ 1073741824 := by unfold okIntS at h; unfold cntIntS; omega
def inIntS (l : List Int) : Prop := l.length ≤ 1048576
theorem ok_of_inIntS {l : List Int} (h : inIntS l) : okIntS l := by unfold inIntS at h; unfold okIntS; omega
def sumIntS (l : List Int) : Int := l.length
theorem sumIntS_nn (l : List Int) : 0 ≤ sumIntS l := by unfold sumIntS; omega
theorem in_of_sumIntS {l : List Int} (h : sumIntS l ≤ 1048576) : inIntS l := by unfold sumIntS at h; unfold inIntS; omega

theorem ageIdx_cases (l : List S46) (a : Int) (j : Nat) : ageIdx l a j = -1 ∨ ∃ i, i < l.length ∧ ageIdx l a j = ((j + i : Nat) : Int) ∧ (l.getD i z46).f0 = a := by
  induction l generalizing j with
  | nil => exact .inl rfl
  | cons x xs ih =>
    unfold ageIdx
    by_cases h : x.f0 = a
    · rw [if_pos h]; exact .inr ⟨0, by simp, by simp, by simpa using h⟩
    · rw [if_neg h]
      rcases ih (j + 1) with e | ⟨i, hi, e, hx⟩
      · exact .inl e
      · exact .inr ⟨i + 1, by simpa using hi, by rw [e]; congr 1; omega, by simpa using hx⟩
theorem impl_AgeAt_ev (l : List S46) (a : Int) (h : okAgeS l) : Ev (fun _ => impl_AgeAt.f l a) (ageIdx l a 0) := evOf fun _ => rfl

def ageOkAt (l : List S46) (i : Nat) : Bool := decide (1 ≤ (l.getD i z46).f0 ∧ (l.getD i z46).f0 ≤ 60) && (decide (¬ ((i : Int) > 0 ∧ (l.getD (i - 1) z46).f0 ≥ (l.getD i z46).f0)) && decide ((l.getD i z46).f1 = 0 ∨ ¬ ageIdx (l.take i) (l.getD i z46).f1 0 < 0))
def agesOkB (l : List S46) : Bool := allFrom (ageOkAt l) l.length 0 && decide ((l.length : Int) ≤ 16)
theorem ageOkAt_of (l : List S46) (i : Nat) (b : Bool) (h : b = true ↔ (1 ≤ (l.getD i z46).f0 ∧ (l.getD i z46).f0 ≤ 60) ∧ ¬ ((i : Int) > 0 ∧ (l.getD (i - 1) z46).f0 ≥ (l.getD i z46).f0) ∧ ((l.getD i z46).f1 = 0 ∨ ¬ ageIdx (l.take i) (l.getD i z46).f1 0 < 0)) : ageOkAt l i = b := by
  rw [Bool.eq_iff_iff, h]
  simp only [ageOkAt, Bool.and_eq_true, decide_eq_true_eq]
theorem rdAge_prev (l : List S46) (i : Nat) (h0 : (i : Int) > 0) (h : i ≤ 4194304) : rd_T46 l (wrap64 ((i : Int) - 1)) = l.getD (i - 1) z46 := by
  rw [w64 (x := (i : Int) - 1) (by omega) (by omega)]
  unfold rd_T46
  congr 1
  omega

theorem impl_AgesOk_ev (l : List S46) (h : okAgeS l) : Ev (fun k => impl_AgesOk.f k l) (agesOkB l) := by
  have h : l.length ≤ 4194304 := h
  refine evAll l.length (fun k i => impl_AgesOk.l0 k l l (l.length : Int) i) (ageOkAt l) (decide ((l.length : Int) ≤ 16)) ?_ ?_ 0 (Nat.zero_le _)
  · intro i hi
    have hr : rd_T46 l (i : Int) = l.getD i z46 := by simp [rd_T46]
    refine ⟨0, 1, fun k _ => ?_⟩
    have hk := w64s i (by omega)
    have tail : ((1 ≤ (l.getD i z46).f0 ∧ (l.getD i z46).f0 ≤ 60) ∧ ¬ ((i : Int) > 0 ∧ (l.getD (i - 1) z46).f0 ≥ (l.getD i z46).f0)) →
        (if (l.getD i z46).f1 = 0 then impl_AgesOk.l0 k l l (l.length : Int) (wrap64 ((i : Int) + 1)) else if (i : Int) ≤ (l.length : Int) then (impl_AgeAt.f (l.take (i : Int).toNat) (l.getD i z46).f1).bind fun t => if t < 0 then some false else impl_AgesOk.l0 k l l (l.length : Int) (wrap64 ((i : Int) + 1)) else none) = if ageOkAt l i = true then impl_AgesOk.l0 k l l (l.length : Int) ((i + 1 : Nat) : Int) else some false := by
      intro hq
      rw [hk, if_pos (show (i : Int) ≤ (l.length : Int) by omega), Int.toNat_natCast]
      simp only [impl_AgeAt.f, Option.bind_some]
      by_cases q3 : (l.getD i z46).f1 = 0
      · rw [if_pos q3, ageOkAt_of l i true (by simp only [true_iff]; exact ⟨hq.1, hq.2, .inl q3⟩)]; simp
      · rw [if_neg q3]
        by_cases q4 : ageIdx (l.take i) (l.getD i z46).f1 0 < 0
        · rw [if_pos q4, ageOkAt_of l i false (by simp only [Bool.false_eq_true, false_iff]; exact fun hh => hh.2.2.elim q3 (fun h' => h' q4))]; simp
        · rw [if_neg q4, ageOkAt_of l i true (by simp only [true_iff]; exact ⟨hq.1, hq.2, .inr q4⟩)]; simp
    simp only [impl_AgesOk.l0, hr, impl_within_f, Option.bind_some]
    rw [if_pos (by omega), if_pos (by omega), if_pos (by omega)]
    by_cases q0 : 1 ≤ (l.getD i z46).f0 ∧ (l.getD i z46).f0 ≤ 60
    · rw [decide_eq_true q0, if_pos rfl]
      by_cases q1 : (i : Int) > 0
      · rw [if_pos q1, rdAge_prev l i q1 (by omega), w64 (x := (i : Int) - 1) (by omega) (by omega), if_pos (by omega), if_pos (by omega)]
        by_cases q2 : (l.getD (i - 1) z46).f0 ≥ (l.getD i z46).f0
        · rw [if_pos q2, ageOkAt_of l i false (by simp only [Bool.false_eq_true, false_iff]; exact fun hh => hh.2.1 ⟨q1, q2⟩)]; simp
        · rw [if_neg q2]; exact tail ⟨q0, fun hh => q2 hh.2⟩
      · rw [if_neg q1]; exact tail ⟨q0, fun hh => q1 hh.1⟩
    · rw [decide_eq_false q0, if_neg (by decide), ageOkAt_of l i false (by simp only [Bool.false_eq_true, false_iff]; exact fun hh => q0 hh.1)]; simp
  · refine ⟨0, 1, fun k _ => ?_⟩
    simp only [impl_AgesOk.l0]
    rw [if_neg (by omega)]

def kidsOf (l : List S46) (a : Int) : List Int := (l.filter fun x => decide (x.f1 = a) && !decide (a = 0)).map fun x => x.f0
theorem kidsOf_length (l : List S46) (a : Int) : (kidsOf l a).length ≤ l.length := by
  unfold kidsOf
  rw [List.length_map]
  exact List.length_filter_le _ _

theorem impl_KidsOf_ev (l : List S46) (a : Int) (h : l.length ≤ 4194304) : Ev (fun k => impl_KidsOf.f k l a) (kidsOf l a) := by
  by_cases h0 : a = 0
  · refine evOf fun k => ?_
    simp only [impl_KidsOf.f, Option.bind_some]
    rw [if_pos h0]
    simp [kidsOf, h0]
  obtain ⟨K, hk⟩ := evRange0 (σ := List Int) l.length (fun k s i => impl_KidsOf.l0 k a s l (l.length : Int) i) (fun i s => s.length ≤ i) (fun i s => s ++ kidsOf (l.drop i) a) [] (by simp)
    (by
      intro i s hi hs
      have hd := drop_getD l i z46 hi
      have hr : rd_T46 l (i : Int) = l.getD i z46 := by simp [rd_T46]
      generalize l.getD i z46 = y at *
      by_cases h1 : y.f1 = a
      · refine .inl ⟨s ++ [y.f0], by simp; omega, ?_, 0, 1, fun k _ => ?_⟩
        · rw [hd, kidsOf, kidsOf, List.filter_cons_of_pos (by simp [h1, h0]), List.map_cons, List.append_assoc]; rfl
        · simp only [impl_KidsOf.l0, hr]
          rw [if_pos (by omega), if_pos (by omega), if_pos (by omega), if_pos h1, if_pos (by omega), w64s i (by omega)]
      · refine .inl ⟨s, by omega, ?_, 0, 1, fun k _ => ?_⟩
        · rw [hd, kidsOf, kidsOf, List.filter_cons_of_neg (by simp [h1])]
        · simp only [impl_KidsOf.l0, hr]
          rw [if_pos (by omega), if_pos (by omega), if_pos (by omega), if_neg h1, w64s i (by omega)])
    (by
      intro s _
      refine ⟨0, 1, fun k _ => ?_⟩
      simp only [impl_KidsOf.l0]
      rw [if_neg (by omega)]
      simp [kidsOf])
  refine ⟨K, fun k hk' => ?_⟩
  simp only [impl_KidsOf.f, Option.bind_some]
  rw [if_neg h0]
  exact hk k hk'

def pathOf (l : List S46) : Nat → Int → List Int
  | 0, _ => []
  | n + 1, a => if ageIdx l a 0 < 0 then [] else a :: pathOf l n (l.getD (ageIdx l a 0).toNat z46).f1
theorem pathOf_length (l : List S46) : ∀ n a, (pathOf l n a).length ≤ n
  | 0, _ => Nat.le_refl _
  | n + 1, a => by
    unfold pathOf
    by_cases h : ageIdx l a 0 < 0
    · rw [if_pos h]; exact Nat.zero_le _
    · rw [if_neg h, List.length_cons]
      exact Nat.succ_le_succ (pathOf_length l n _)

theorem impl_PathOf_ev (l : List S46) (a : Int) (h : okAgeS l) : Ev (fun k => impl_PathOf.f k l a) (pathOf l (l.length + 1) a) := by
  have h : l.length ≤ 4194304 := h
  obtain ⟨K, hk⟩ := evRange0 (σ := Int × List Int) (l.length + 1) (fun k s i => impl_PathOf.l0 k l s.1 s.2 ((l.length + 1 : Nat) : Int) i) (fun i s => s.2.length ≤ i) (fun i s => s.2 ++ pathOf l (l.length + 1 - i) s.1) (a, []) (by simp)
    (by
      intro i s hi hs
      obtain ⟨id, out⟩ := s
      have hs : out.length ≤ i := hs
      rw [show l.length + 1 - i = (l.length + 1 - (i + 1)) + 1 by omega]
      rcases ageIdx_cases l id 0 with e | ⟨j, hj, e, hx⟩
      · refine .inr ⟨0, 1, fun k _ => ?_⟩
        simp only [impl_PathOf.l0, impl_AgeAt.f, Option.bind_some, pathOf]
        rw [if_pos (by omega), if_pos (by omega), if_pos (by omega), List.append_nil]
      · rw [Nat.zero_add] at e
        have hr : rd_T46 l (j : Int) = l.getD j z46 := by simp [rd_T46]
        refine .inl ⟨((l.getD j z46).f1, out ++ [id]), by simp; omega, ?_, 0, 1, fun k _ => ?_⟩
        · simp only [pathOf]
          rw [if_neg (by omega), e, Int.toNat_natCast, List.append_assoc]; rfl
        · simp only [impl_PathOf.l0, impl_AgeAt.f, Option.bind_some, e, hr]
          rw [if_pos (by omega), if_neg (by omega), if_pos (by omega), if_pos (by omega), if_pos (by omega), w64s i (by omega)])
    (by
      intro s _
      refine ⟨0, 1, fun k _ => ?_⟩
      simp only [impl_PathOf.l0]
      rw [if_neg (by omega), Nat.sub_self]
      simp [pathOf])
  refine ⟨K, fun k hk' => ?_⟩
  have := hk k hk'
  simp only [impl_PathOf.f]
  rw [w64s l.length (by omega)]
  simpa using this

theorem slices_Contains_ev (l : List Int) (a : Int) (h : okIntS l) : Ev (fun k => slices_Contains_int_int.f k l a) (l.contains a) := by
  have h : l.length ≤ 4194304 := h
  have : ∃ r : Int, (decide (r ≥ 0) = l.contains a) ∧ Ev (fun k => slices_Index_int_int.l0 k l a (l.length : Int) 0) r := by
    have := evRangeEx (σ := Unit) l.length (fun k _ i => slices_Index_int_int.l0 k l a (l.length : Int) i) (fun i _ => l.contains a = (l.drop i).contains a) (fun r => decide (r ≥ 0) = l.contains a)
      (by
        intro i _ hi hc
        have hd := drop_getD l i 0 hi
        have hr : rd l (i : Int) = l.getD i 0 := by simp [rd]
        generalize l.getD i 0 = y at *
        by_cases h1 : a = y
        · refine .inr ⟨(i : Int), ?_, 0, 1, fun k _ => ?_⟩
          · rw [hc, hd, decide_eq_true (by omega)]; simp [h1]
          · simp only [slices_Index_int_int.l0, hr]
            rw [if_pos (by omega), if_pos (by omega), if_pos (by omega), if_pos h1]
        · refine .inl ⟨(), ?_, 0, 1, fun k _ => ?_⟩
          · rw [hc, hd, List.contains_cons, show (a == y) = false by simpa using h1, Bool.false_or]
          · simp only [slices_Index_int_int.l0, hr]
            rw [if_pos (by omega), if_pos (by omega), if_pos (by omega), if_neg h1, w64s i (by omega)])
      (by
        intro _ hc
        refine ⟨-1, ?_, 0, 1, fun k _ => ?_⟩
        · rw [hc, List.drop_length]; rfl
        · simp only [slices_Index_int_int.l0]
          rw [if_neg (by omega)]) 0 () (Nat.zero_le _) (by simp)
    exact this
  obtain ⟨r, hr, K, hk⟩ := this
  refine ⟨K, fun k hk' => ?_⟩
  simp only [slices_Contains_int_int.f, slices_Index_int_int.f, hk k hk', Option.bind_some, hr]

theorem impl_IsFrom_ev (l : List S46) (a b : Int) (ho : okAgeS l) (h1 : l.length ≤ 2097152) : Ev (fun k => impl_IsFrom.f k l a b) ((pathOf l (l.length + 1) b).contains a) := by
  have hp := pathOf_length l (l.length + 1) b
  unfold impl_IsFrom.f
  refine Ev.bind (impl_PathOf_ev l b ho) ?_
  refine Ev.bind (slices_Contains_ev _ a (by unfold okIntS; omega)) ?_
  exact Ev.now _

def bytesIn (l : List Int) : Prop := ∀ x ∈ l, 0 ≤ x ∧ x ≤ 255
theorem bytesIn_at {l : List Int} (h : bytesIn l) (i : Nat) : 0 ≤ l.getD i 0 ∧ l.getD i 0 ≤ 255 := by
  by_cases hi : i < l.length
  · exact h _ (getD_mem l i 0 hi)
  · rw [List.getD_eq_getElem?_getD, List.getElem?_eq_none (by omega)]; decide
def getW (l : List Int) (a : Int) : Int × Int × Bool := if 0 ≤ a ∧ a ≤ (l.length : Int) - 2 then (l.getD a.toNat 0 * 256 + l.getD (a.toNat + 1) 0, a + 2, true) else (0, 0, false)

/-! The cursor of a draw: bytes, how far, a number that follows from them. -/
def curOk (b : List Int) (i : Int) : Prop := bytesIn b ∧ b.length ≤ 1048576 ∧ 0 ≤ i ∧ i ≤ (b.length : Int)

theorem l1New_ex (b : List Int) (hb : bytesIn b) (hl : b.length ≤ 1048576) : ∃ h, Ev (fun k => spec_l1New.f k b) (b, 0, h) := by
  obtain ⟨r, ⟨h, rfl⟩, K, hk⟩ := evRangeEx (σ := Int) b.length (fun k s i => spec_l1New.l0 k b s i) (fun _ _ => True) (fun r => ∃ h, r = (b, 0, h))
    (by
      intro i s hi _
      by_cases c : i < 4000
      · refine .inl ⟨Go.bits .and .i64 (wrap64 ((wrap64 ((wrap64 (s * 137)) + (wrap64 (rd b (i : Int))))) + 11)) 1073741823, trivial, 0, 1, fun k _ => ?_⟩
        simp only [spec_l1New.l0]
        rw [if_pos (by omega), if_pos (by omega), if_pos (by omega), w64s i (by omega)]
      · refine .inr ⟨(b, 0, s), ⟨s, rfl⟩, 0, 1, fun k _ => ?_⟩
        simp only [spec_l1New.l0]
        rw [if_pos (by omega), if_neg (by omega)])
    (by
      intro s _
      refine ⟨(b, 0, s), ⟨s, rfl⟩, 0, 1, fun k _ => ?_⟩
      simp only [spec_l1New.l0]
      rw [if_neg (by omega)]) 0 (wrap64 (941941 + (b.length : Int))) (Nat.zero_le _) trivial
  exact ⟨h, K, fun k hk' => hk k hk'⟩

theorem spec_AgeAt_ev (l : List S46) (a : Int) (h : okAgeS l) : Ev (fun k => spec_AgeAt.f k l a) (ageIdx l a 0) := by
  have h : l.length ≤ 4194304 := h
  obtain ⟨K, hk⟩ := evRange0 (σ := Unit) l.length (fun k _ i => spec_AgeAt.l0 k l a i) (fun _ _ => True) (fun i _ => ageIdx (l.drop i) a i) () trivial
    (by
      intro i _ hi _
      have hat := ageIdx_at l a i i hi
      have hr : rd_T46 l (i : Int) = l.getD i z46 := by simp [rd_T46]
      generalize l.getD i z46 = y at *
      by_cases h1 : y.f0 = a
      · refine .inr ⟨0, 1, fun k _ => ?_⟩
        simp only [spec_AgeAt.l0, hr]
        rw [if_pos (by omega), if_pos (by omega), if_pos h1, hat, if_pos h1]
      · refine .inl ⟨(), trivial, ?_, 0, 1, fun k _ => ?_⟩
        · rw [hat, if_neg h1]
        · simp only [spec_AgeAt.l0, hr]
          rw [if_pos (by omega), if_pos (by omega), if_neg h1, w64s i (by omega)])
    (by
      intro _ _
      refine ⟨0, 1, fun k _ => ?_⟩
      simp only [spec_AgeAt.l0]
      rw [if_neg (by omega), List.drop_length]
      rfl)
  exact ⟨K, fun k hk' => hk k hk'⟩

theorem spec_l1In_f (a b c : Int) : spec_l1In.f a b c = some (decide (b ≤ a ∧ a ≤ c)) := by
  unfold spec_l1In.f
  by_cases h : a ≥ b
  · rw [if_pos h]; congr 1; rw [Bool.eq_iff_iff]; simp; omega
  · rw [if_neg h]; congr 1; rw [Bool.eq_iff_iff]; simp; omega

theorem spec_AgesOk_ev (l : List S46) (h : okAgeS l) : Ev (fun k => spec_AgesOk.f k l) (agesOkB l) := by
  have ho := h
  have h : l.length ≤ 4194304 := h
  refine evAll l.length (fun k i => spec_AgesOk.l0 k l i) (ageOkAt l) (decide ((l.length : Int) ≤ 16)) ?_ ?_ 0 (Nat.zero_le _)
  · intro i hi
    have hr : rd_T46 l (i : Int) = l.getD i z46 := by simp [rd_T46]
    obtain ⟨K, hK⟩ := spec_AgeAt_ev (l.take i) (l.getD i z46).f1 (by unfold okAgeS; rw [List.length_take]; omega)
    refine ⟨K, 2, fun k hk' => ?_⟩
    have hk := w64s i (by omega)
    have tail : ((1 ≤ (l.getD i z46).f0 ∧ (l.getD i z46).f0 ≤ 60) ∧ ¬ ((i : Int) > 0 ∧ (l.getD (i - 1) z46).f0 ≥ (l.getD i z46).f0)) →
        spec_AgesOk.j1 (k + 1) l i false = if ageOkAt l i = true then spec_AgesOk.l0 k l ((i + 1 : Nat) : Int) else some false := by
      intro hq
      simp only [spec_AgesOk.j1, hr, hk, Int.toNat_natCast, hK k hk', Option.bind_some]
      rw [if_neg (by decide), if_pos (by omega), if_pos (by omega), if_pos (show (i : Int) ≤ (l.length : Int) by omega)]
      by_cases q3 : (l.getD i z46).f1 = 0
      · rw [if_pos q3, ageOkAt_of l i true (by simp only [true_iff]; exact ⟨hq.1, hq.2, .inl q3⟩)]; simp
      · rw [if_neg q3]
        by_cases q4 : ageIdx (l.take i) (l.getD i z46).f1 0 < 0
        · rw [if_pos q4, ageOkAt_of l i false (by simp only [Bool.false_eq_true, false_iff]; exact fun hh => hh.2.2.elim q3 (fun h' => h' q4))]; simp
        · rw [if_neg q4, ageOkAt_of l i true (by simp only [true_iff]; exact ⟨hq.1, hq.2, .inr q4⟩)]; simp
    have stop : spec_AgesOk.j1 (k + 1) l i true = some false := by simp [spec_AgesOk.j1]
    show spec_AgesOk.l0 (k + 1 + 1) l i = _
    rw [spec_AgesOk.l0]
    simp only [hr, spec_l1In_f, Option.bind_some]
    rw [if_pos (by omega), if_pos (by omega)]
    by_cases q0 : 1 ≤ (l.getD i z46).f0 ∧ (l.getD i z46).f0 ≤ 60
    · rw [decide_eq_true q0, if_pos rfl]
      by_cases q1 : (i : Int) > 0
      · rw [if_pos q1, rdAge_prev l i q1 (by omega), w64 (x := (i : Int) - 1) (by omega) (by omega), if_pos (by omega), if_pos (by omega)]
        by_cases q2 : (l.getD (i - 1) z46).f0 ≥ (l.getD i z46).f0
        · rw [decide_eq_true q2, stop, ageOkAt_of l i false (by simp only [Bool.false_eq_true, false_iff]; exact fun hh => hh.2.1 ⟨q1, q2⟩)]; simp
        · rw [decide_eq_false q2]; exact tail ⟨q0, fun hh => q2 hh.2⟩
      · rw [if_neg q1]; exact tail ⟨q0, fun hh => q1 hh.1⟩
    · rw [decide_eq_false q0, if_neg (by decide), stop, ageOkAt_of l i false (by simp only [Bool.false_eq_true, false_iff]; exact fun hh => q0 hh.1)]; simp
  · refine ⟨0, 1, fun k _ => ?_⟩
    simp only [spec_AgesOk.l0]
    rw [if_neg (by omega)]

def insAge (id frm : Int) : List S46 → List S46
  | [] => [⟨id, frm⟩]
  | x :: xs => if x.f0 > id then ⟨id, frm⟩ :: x :: xs else x :: insAge id frm xs
theorem insAge_length (id frm : Int) : ∀ l : List S46, (insAge id frm l).length = l.length + 1
  | [] => rfl
  | x :: xs => by
    unfold insAge
    by_cases h : x.f0 > id
    · rw [if_pos h]; rfl
    · rw [if_neg h, List.length_cons, insAge_length id frm xs]; rfl
def newAgeFin (l : List S46) (id : Int) (out : List S46) : List S46 × Bool := if 0 ≤ ageIdx l id 0 then (l, false) else if agesOkB out = true then (out, true) else (l, false)
def newAge (l : List S46) (id frm : Int) : List S46 × Bool := newAgeFin l id (insAge id frm l)
theorem newAgeFin_length (l : List S46) (id : Int) (out : List S46) : (newAgeFin l id out).1.length ≤ max l.length out.length := by
  unfold newAgeFin
  split
  · exact Nat.le_max_left ..
  · split
    · exact Nat.le_max_right ..
    · exact Nat.le_max_left ..
theorem newAge_ok (l : List S46) (id frm : Int) (h : agesOkB l = true) : agesOkB (newAge l id frm).1 = true := by
  unfold newAge newAgeFin
  split
  · exact h
  · split
    · assumption
    · exact h

theorem newAge_j1 (l out : List S46) (id : Int) (ho : okAgeS l) (hout : okAgeS out) : Ev (fun k => spec_NewAge.j1 k l id out) (newAgeFin l id out) := by
  have hl : l.length ≤ 4194304 := ho
  obtain ⟨K1, h1⟩ := spec_AgeAt_ev l id ho
  obtain ⟨K2, h2⟩ := spec_AgesOk_ev out hout
  refine evSucc ⟨K1 + K2, 1, fun k hk => ?_⟩
  simp only [spec_NewAge.j1, h1 k (by omega), h2 k (by omega), Option.bind_some, newAgeFin, List.length_nil, List.nil_append]
  by_cases q : ageIdx l id 0 ≥ 0
  · rw [if_pos q, if_pos (show 0 ≤ ageIdx l id 0 from q), if_pos (show 0 + l.length < 8796093022208 by omega)]
  · rw [if_neg q, if_neg (show ¬ 0 ≤ ageIdx l id 0 by omega)]
    by_cases q2 : agesOkB out = true
    · rw [if_pos q2, if_pos q2]
    · rw [if_neg q2, if_neg q2, if_pos (show 0 + l.length < 8796093022208 by omega)]
theorem newAge_go (l : List S46) (id frm : Int) (h : l.length ≤ 1048576) (b : Bool) : Ev (fun k => spec_NewAge.l0 k l id frm [] b 0) (newAgeFin l id (if b = true then l else insAge id frm l)) := by
  have ho : okAgeS l := by unfold okAgeS; omega
  obtain ⟨K, hk⟩ := evRange0 (σ := List S46 × Bool) l.length (fun k s i => spec_NewAge.l0 k l id frm s.1 s.2 i) (fun i s => s.1.length ≤ 2 * i) (fun i s => newAgeFin l id (s.1 ++ if s.2 = true then l.drop i else insAge id frm (l.drop i))) ([], b) (by simp)
    (by
      intro i s hi hs
      obtain ⟨out, d⟩ := s
      have hs : out.length ≤ 2 * i := hs
      have hd := drop_getD l i z46 hi
      have hr : rd_T46 l (i : Int) = l.getD i z46 := by simp [rd_T46]
      generalize l.getD i z46 = y at *
      cases d with
      | true =>
        refine .inl ⟨(out ++ [y], true), by simp; omega, ?_, 0, 1, fun k _ => ?_⟩
        · simp only [if_true]; rw [hd, List.append_assoc]; rfl
        · simp only [spec_NewAge.l0, hr, if_true]
          rw [if_pos (by omega), if_pos (by omega), if_pos (by omega), w64s i (by omega)]
      | false =>
        by_cases q : y.f0 > id
        · refine .inl ⟨(out ++ [⟨id, frm⟩] ++ [y], true), by simp; omega, ?_, 0, 1, fun k _ => ?_⟩
          · simp only [if_true, Bool.false_eq_true, if_false]; rw [hd, insAge, if_pos q, List.append_assoc, List.append_assoc]; rfl
          · simp only [spec_NewAge.l0, hr, Bool.false_eq_true, if_false, Option.bind_some]
            rw [if_pos (by omega), if_pos (by omega), if_pos q, if_pos (by omega), if_pos (by simp; omega), w64s i (by omega)]
        · refine .inl ⟨(out ++ [y], false), by simp; omega, ?_, 0, 1, fun k _ => ?_⟩
          · simp only [Bool.false_eq_true, if_false]; rw [hd, insAge, if_neg q, List.append_assoc]; rfl
          · simp only [spec_NewAge.l0, hr, Bool.false_eq_true, if_false]
            rw [if_pos (by omega), if_pos (by omega), if_neg q, if_pos (by omega), w64s i (by omega)])
    (by
      intro s hs
      obtain ⟨out, d⟩ := s
      have hs : out.length ≤ 2 * l.length := hs
      cases d with
      | true =>
        obtain ⟨K, hK⟩ := newAge_j1 l out id ho (by unfold okAgeS; omega)
        refine ⟨K, 1, fun k hk => ?_⟩
        simp only [spec_NewAge.l0, if_true, hK k hk]
        rw [if_neg (by omega), List.drop_length, List.append_nil]
      | false =>
        obtain ⟨K, hK⟩ := newAge_j1 l (out ++ [⟨id, frm⟩]) id ho (by unfold okAgeS; simp; omega)
        refine ⟨K, 1, fun k hk => ?_⟩
        simp only [spec_NewAge.l0, Bool.false_eq_true, if_false, hK k hk]
        rw [if_neg (by omega), if_pos (by omega), List.drop_length]
        rfl)
  refine ⟨K, fun k hk' => ?_⟩
  have := hk k hk'
  simpa using this
theorem spec_NewAge_ev (l : List S46) (id frm : Int) (h : l.length ≤ 1048576) : Ev (fun k => spec_NewAge.f k l id frm) (newAge l id frm) := by
  have ho : okAgeS l := by unfold okAgeS; omega
  obtain ⟨K1, h1⟩ := spec_AgeAt_ev l id ho
  obtain ⟨K2, h2⟩ := newAge_go l id frm h (decide (ageIdx l id 0 ≥ 0))
  refine ⟨K1 + K2, fun k hk => ?_⟩
  have h2 := h2 k (by omega)
  simp only [spec_NewAge.f, h1 k (by omega), Option.bind_some, newAge]
  rw [show newAgeFin l id (insAge id frm l) = newAgeFin l id (if decide (ageIdx l id 0 ≥ 0) = true then l else insAge id frm l) from ?_]
  · exact h2
  · by_cases q : ageIdx l id 0 ≥ 0
    · unfold newAgeFin; rw [if_pos q, if_pos q]
    · rw [decide_eq_false q, if_neg (by decide)]

theorem l1Byte_ex (b : List Int) (i h : Int) (hc : curOk b i) : ∃ x j g, spec_l1Byte.f b i h = some (x, j, g) ∧ (0 ≤ x ∧ x ≤ 255) ∧ curOk b j := by
  obtain ⟨hb, hl, h0, h1⟩ := hc
  unfold spec_l1Byte.f
  simp only [and255]
  by_cases c : i < (b.length : Int)
  · rw [if_pos c, if_pos h0]
    exact ⟨_, _, _, rfl, ⟨by omega, by omega⟩, hb, hl, by rw [w64 (by omega) (by omega)]; omega, by rw [w64 (by omega) (by omega)]; omega⟩
  · rw [if_neg c]
    exact ⟨_, _, _, rfl, ⟨by omega, by omega⟩, hb, hl, h0, h1⟩

theorem l1Below_ex (b : List Int) (i h n : Int) (hc : curOk b i) (hn : n ≤ 9223372036854775807) : ∃ x j g, spec_l1Below.f b i h n = some (x, j, g) ∧ (0 ≤ x ∧ (0 < n → x < n) ∧ (n ≤ 0 → x = 0)) ∧ curOk b j := by
  unfold spec_l1Below.f
  by_cases c : n ≤ 0
  · rw [if_pos c]; exact ⟨_, _, _, rfl, ⟨by omega, by omega, fun _ => rfl⟩, hc⟩
  rw [if_neg c]
  by_cases c2 : n ≤ 256
  · rw [if_pos c2]
    obtain ⟨x, j, g, e, hx, hj⟩ := l1Byte_ex b i h hc
    simp only [e, Option.bind_some]
    rw [if_neg (by omega)]
    have h1 := Int.tmod_nonneg (b := n) hx.1
    have h2 := Int.tmod_lt_of_pos x (show 0 < n by omega)
    exact ⟨_, _, _, rfl, ⟨h1, fun _ => h2, fun h => by omega⟩, hj⟩
  · rw [if_neg c2]
    obtain ⟨x, j, g, e, hx, hj⟩ := l1Byte_ex b i h hc
    obtain ⟨x2, j2, g2, e2, hx2, hj2⟩ := l1Byte_ex b j g hj
    obtain ⟨x3, j3, g3, e3, hx3, hj3⟩ := l1Byte_ex b j2 g2 hj2
    simp only [e, e2, e3, Option.bind_some]
    rw [if_neg (by omega), w64 (x := x * 65536) (by omega) (by omega), w64 (x := x2 * 256) (by omega) (by omega), w64 (x := x * 65536 + x2 * 256) (by omega) (by omega), w64 (x := x * 65536 + x2 * 256 + x3) (by omega) (by omega)]
    have h1 := Int.tmod_nonneg (b := n) (show 0 ≤ x * 65536 + x2 * 256 + x3 by omega)
    have h2 := Int.tmod_lt_of_pos (x * 65536 + x2 * 256 + x3) (show 0 < n by omega)
    exact ⟨_, _, _, rfl, ⟨h1, fun _ => h2, fun h => by omega⟩, hj3⟩

theorem agesOk_len {l : List S46} (h : agesOkB l = true) : l.length ≤ 16 := by
  unfold agesOkB at h
  rw [Bool.and_eq_true, decide_eq_true_eq] at h
  omega
theorem l7Go_ex (b : List Int) : ∀ (n : Nat) (l : List S46) (j g : Int), n ≤ 8 → agesOkB l = true → curOk b j → ∃ l' j' g', agesOkB l' = true ∧ curOk b j' ∧ Ev (fun k => spec_l7Draw.l0 k l (n : Int) b j g) (l', j', g')
  | 0, l, j, g, _, hl, hc => ⟨l, j, g, hl, hc, evSucc ⟨0, 1, fun k _ => by simp only [spec_l7Draw.l0]; rw [if_neg (by omega)]⟩⟩
  | n + 1, l, j, g, hn, hl, hc => by
    have hlen := agesOk_len hl
    have tail : ∀ (f j g : Int), curOk b j → ∃ l' j' g', agesOkB l' = true ∧ curOk b j' ∧ Ev (fun k => spec_l7Draw.j1 k l ((n + 1 : Nat) : Int) f false b j g) (l', j', g') := by
      intro f j g hc
      obtain ⟨x, j1, g1, e, hx, hj⟩ := l1Below_ex b j g 8 hc (by decide)
      have hx8 := hx.2.1 (by decide)
      obtain ⟨l', j', g', hl', hj', K, hK⟩ := l7Go_ex b n (newAge l (1 + x) f).1 j1 g1 (by omega) (newAge_ok l _ _ hl) hj
      obtain ⟨K2, hK2⟩ := spec_NewAge_ev l (1 + x) f (by omega)
      refine ⟨l', j', g', hl', hj', evSucc ⟨K + K2, 1, fun k hk => ?_⟩⟩
      have a1 := hK k (by omega)
      simp only at a1
      simp only [spec_l7Draw.j1, e, Option.bind_some, Bool.false_eq_true, if_false, w64 (x := 1 + x) (by omega) (by omega), hK2 k (by omega), w64 (x := ((n + 1 : Nat) : Int) - 1) (by omega) (by omega)]
      rw [show ((n + 1 : Nat) : Int) - 1 = (n : Int) by omega]
      exact a1
    have tail2 : ∀ (f j g : Int), 0 < l.length → curOk b j → ∃ l' j' g', agesOkB l' = true ∧ curOk b j' ∧ Ev (fun k => spec_l7Draw.j1 k l ((n + 1 : Nat) : Int) f true b j g) (l', j', g') := by
      intro f j g hpos hc
      obtain ⟨y, j0, g0, e0, hy, hj0⟩ := l1Below_ex b j g (l.length : Int) hc (by omega)
      have hy1 := hy.2.1 (by omega)
      obtain ⟨x, j1, g1, e, hx, hj⟩ := l1Below_ex b j0 g0 8 hj0 (by decide)
      have hx8 := hx.2.1 (by decide)
      obtain ⟨l', j', g', hl', hj', K, hK⟩ := l7Go_ex b n (newAge l (1 + x) (rd_T46 l y).f0).1 j1 g1 (by omega) (newAge_ok l _ _ hl) hj
      obtain ⟨K2, hK2⟩ := spec_NewAge_ev l (1 + x) (rd_T46 l y).f0 (by omega)
      refine ⟨l', j', g', hl', hj', evSucc ⟨K + K2, 1, fun k hk => ?_⟩⟩
      have a1 := hK k (by omega)
      simp only at a1
      simp only [spec_l7Draw.j1, e0, e, Option.bind_some, if_true, w64 (x := 1 + x) (by omega) (by omega), hK2 k (by omega), w64 (x := ((n + 1 : Nat) : Int) - 1) (by omega) (by omega)]
      rw [if_pos hy.1, if_pos hy1, show ((n + 1 : Nat) : Int) - 1 = (n : Int) by omega]
      exact a1
    by_cases c : 0 < l.length
    · obtain ⟨x, j1, g1, e, hx, hj⟩ := l1Below_ex b j g 4 hc (by decide)
      have : ∃ l' j' g', agesOkB l' = true ∧ curOk b j' ∧ Ev (fun k => spec_l7Draw.j1 k l ((n + 1 : Nat) : Int) 0 (!(x == 0)) b j1 g1) (l', j', g') := by
        cases (!(x == 0)) with
        | true => exact tail2 0 j1 g1 c hj
        | false => exact tail 0 j1 g1 hj
      obtain ⟨l', j', g', hl', hj', K, hK⟩ := this
      refine ⟨l', j', g', hl', hj', evSucc ⟨K, 1, fun k hk => ?_⟩⟩
      have a1 := hK k hk
      simp only at a1
      simp only [spec_l7Draw.l0, spec_l1Once.f, e, Option.bind_some]
      rw [if_pos (by omega), if_pos (by omega)]
      exact a1
    · obtain ⟨l', j', g', hl', hj', K, hK⟩ := tail 0 j g hc
      refine ⟨l', j', g', hl', hj', evSucc ⟨K, 1, fun k hk => ?_⟩⟩
      have a1 := hK k hk
      simp only at a1
      simp only [spec_l7Draw.l0]
      rw [if_pos (by omega), if_neg (by omega)]
      exact a1
theorem DrawAges_ex (b : List Int) (hb : bytesIn b) (hl : b.length ≤ 1048576) : ∃ l x y, agesOkB l = true ∧ Ev (fun k => spec_DrawAges.f k b) (l, x, y) := by
  obtain ⟨h, K0, e0⟩ := l1New_ex b hb hl
  obtain ⟨n, j1, g1, e1, hn, hj1⟩ := l1Below_ex b 0 h 8 ⟨hb, hl, by omega, by omega⟩ (by decide)
  have hn8 := hn.2.1 (by decide)
  obtain ⟨m, rfl⟩ := Int.eq_ofNat_of_zero_le hn.1
  obtain ⟨l, j2, g2, hok, hj2, K2, e2⟩ := l7Go_ex b m [] j1 g1 (by omega) (by rfl) hj1
  obtain ⟨x, j3, g3, e3, hx, hj3⟩ := l1Below_ex b j2 g2 8 hj2 (by decide)
  obtain ⟨y, j4, g4, e4, hy, hj4⟩ := l1Below_ex b j3 g3 8 hj3 (by decide)
  refine ⟨l, wrap64 (1 + x), wrap64 (1 + y), hok, K0 + K2, fun k hk => ?_⟩
  have a2 := e2 k (by omega)
  simp only at a2
  simp only [spec_DrawAges.f, spec_l7Draw.f, e0 k (by omega), e1, Option.bind_some, a2, e3, e4]

theorem sameInts_ev (l : List Int) (h : l.length ≤ 4194304) : Ev (fun k => laws_sameInts.f k l l) true := by
  obtain ⟨K, hk⟩ := evRange0 (σ := Unit) l.length (fun k _ i => laws_sameInts.l0 k l l i) (fun _ _ => True) (fun _ _ => true) () trivial
    (by
      intro i _ hi _
      refine .inl ⟨(), trivial, rfl, 0, 1, fun k _ => ?_⟩
      simp only [laws_sameInts.l0]
      rw [if_pos (by omega), if_pos (by omega), if_pos (by omega), if_pos trivial, w64s i (by omega)])
    (by
      intro _ _
      refine ⟨0, 1, fun k _ => ?_⟩
      simp only [laws_sameInts.l0]
      rw [if_neg (by omega)])
  refine ⟨K, fun k hk' => ?_⟩
  simp only [laws_sameInts.f, if_true]
  exact hk k hk'

theorem laws_hasInt_ev (l : List Int) (a : Int) (h : okIntS l) : Ev (fun k => laws_hasInt.f k l a) (l.contains a) := by
  have h : l.length ≤ 4194304 := h
  obtain ⟨K, hk⟩ := evRange0 (σ := Unit) l.length (fun k _ i => laws_hasInt.l0 k l a i) (fun _ _ => True) (fun i _ => (l.drop i).contains a) () trivial
    (by
      intro i _ hi _
      have hd := drop_getD l i 0 hi
      have hr : rd l (i : Int) = l.getD i 0 := by simp [rd]
      generalize l.getD i 0 = y at *
      by_cases h1 : y = a
      · refine .inr ⟨0, 1, fun k _ => ?_⟩
        simp only [laws_hasInt.l0, hr]
        rw [if_pos (by omega), if_pos (by omega), if_pos h1, hd]
        simp [h1]
      · refine .inl ⟨(), trivial, ?_, 0, 1, fun k _ => ?_⟩
        · rw [hd, List.contains_cons, show (a == y) = false by simpa using fun h => h1 h.symm, Bool.false_or]
        · simp only [laws_hasInt.l0, hr]
          rw [if_pos (by omega), if_pos (by omega), if_neg h1, w64s i (by omega)])
    (by
      intro _ _
      refine ⟨0, 1, fun k _ => ?_⟩
      simp only [laws_hasInt.l0]
      rw [if_neg (by omega)]
      simp)
  exact ⟨K, fun k hk' => hk k hk'⟩

/-! What a right list of versions tells of its paths. -/
theorem agesOk_at {l : List S46} (h : agesOkB l = true) (i : Nat) (hi : i < l.length) : (1 ≤ (l.getD i z46).f0 ∧ (l.getD i z46).f0 ≤ 60) ∧ ¬ ((i : Int) > 0 ∧ (l.getD (i - 1) z46).f0 ≥ (l.getD i z46).f0) ∧ ((l.getD i z46).f1 = 0 ∨ ¬ ageIdx (l.take i) (l.getD i z46).f1 0 < 0) := by
  unfold agesOkB at h
  rw [Bool.and_eq_true] at h
  have := allFrom_iff.1 h.1 i (Nat.zero_le _) hi
  simpa only [ageOkAt, Bool.and_eq_true, decide_eq_true_eq] using this
theorem agesOk_mono {l : List S46} (h : agesOkB l = true) (i : Nat) : ∀ j, i < j → j < l.length → (l.getD i z46).f0 < (l.getD j z46).f0 := by
  intro j
  induction j with
  | zero => intro h0; omega
  | succ j ih =>
    intro h0 h1
    have a := agesOk_at h (j + 1) h1
    have b : (l.getD j z46).f0 < (l.getD (j + 1) z46).f0 := by
      have := a.2.1
      simp only [Nat.add_sub_cancel] at this
      by_cases c : (l.getD j z46).f0 ≥ (l.getD (j + 1) z46).f0
      · exact absurd ⟨by omega, c⟩ this
      · omega
    by_cases e : i = j
    · subst e; exact b
    · exact Int.lt_trans (ih (by omega) (by omega)) b
theorem agesOk_inj {l : List S46} (h : agesOkB l = true) {i j : Nat} (hi : i < l.length) (hj : j < l.length) (e : (l.getD i z46).f0 = (l.getD j z46).f0) : i = j := by
  rcases Nat.lt_trichotomy i j with c | c | c
  · have := agesOk_mono h i j c hj; omega
  · exact c
  · have := agesOk_mono h j i c hi; omega
theorem ageIdx_none (l : List S46) (a : Int) (j : Nat) (h : ageIdx l a j = -1) : ∀ i, i < l.length → (l.getD i z46).f0 ≠ a := by
  induction l generalizing j with
  | nil => intro i hi; simp at hi
  | cons x xs ih =>
    unfold ageIdx at h
    by_cases c : x.f0 = a
    · rw [if_pos c] at h; omega
    · rw [if_neg c] at h
      intro i hi
      cases i with
      | zero => simpa using c
      | succ i => simpa using ih (j + 1) h i (by simpa using hi)
theorem ageIdx_of {l : List S46} (h : agesOkB l = true) (i : Nat) (hi : i < l.length) : ageIdx l (l.getD i z46).f0 0 = (i : Int) := by
  rcases ageIdx_cases l (l.getD i z46).f0 0 with e | ⟨j, hj, e, hx⟩
  · exact absurd rfl (ageIdx_none l _ 0 e i hi)
  · rw [e, Nat.zero_add, agesOk_inj h hj hi hx]
theorem path_zero {l : List S46} (h : agesOkB l = true) (n : Nat) : pathOf l n 0 = [] := by
  cases n with
  | zero => rfl
  | succ n =>
    rcases ageIdx_cases l 0 0 with e | ⟨j, hj, e, hx⟩
    · unfold pathOf; rw [if_pos (by omega)]
    · have := (agesOk_at h j hj).1; omega
theorem parent_of {l : List S46} (h : agesOkB l = true) (i : Nat) (hi : i < l.length) : (l.getD i z46).f1 = 0 ∨ ∃ j, j < i ∧ (l.getD j z46).f0 = (l.getD i z46).f1 := by
  rcases (agesOk_at h i hi).2.2 with e | e
  · exact .inl e
  · rcases ageIdx_cases (l.take i) (l.getD i z46).f1 0 with e' | ⟨j, hj, e', hx⟩
    · omega
    · rw [List.length_take] at hj
      refine .inr ⟨j, by omega, ?_⟩
      rw [← hx, List.getD_eq_getElem?_getD, List.getD_eq_getElem?_getD, List.getElem?_take_of_lt (by omega)]
theorem path_step {l : List S46} (h : agesOkB l = true) (i : Nat) (hi : i < l.length) (n : Nat) : pathOf l (n + 1) (l.getD i z46).f0 = (l.getD i z46).f0 :: pathOf l n (l.getD i z46).f1 := by
  show (if ageIdx l (l.getD i z46).f0 0 < 0 then [] else _ :: _) = _
  rw [ageIdx_of h i hi, if_neg (by omega), Int.toNat_natCast]
theorem path_stable {l : List S46} (h : agesOkB l = true) (i : Nat) : i < l.length → ∀ n, i < n → pathOf l n (l.getD i z46).f0 = pathOf l (l.length + 1) (l.getD i z46).f0 := by
  induction i using Nat.strongRecOn with
  | _ i ih =>
    intro hi n hn
    obtain ⟨m, rfl⟩ : ∃ m, n = m + 1 := ⟨n - 1, by omega⟩
    rw [path_step h i hi, path_step h i hi]
    rcases parent_of h i hi with e | ⟨j, hj, e⟩
    · rw [e, path_zero h, path_zero h]
    · rw [← e, ih j hj (by omega) m (by omega), ih j hj (by omega) l.length (by omega)]
theorem path_falls {l : List S46} (h : agesOkB l = true) (i : Nat) : i < l.length → ∀ n, List.Pairwise (fun a b => b < a) (pathOf l n (l.getD i z46).f0) ∧ ∀ x ∈ pathOf l n (l.getD i z46).f0, x ≤ (l.getD i z46).f0 := by
  induction i using Nat.strongRecOn with
  | _ i ih =>
    intro hi n
    cases n with
    | zero => exact ⟨List.Pairwise.nil, by intro x hx; simp [pathOf] at hx⟩
    | succ n =>
      rw [path_step h i hi]
      rcases parent_of h i hi with e | ⟨j, hj, e⟩
      · rw [e, path_zero h]; simp
      · have hh := ih j hj (by omega) n
        have hm := agesOk_mono h j i hj hi
        rw [← e]
        refine ⟨List.pairwise_cons.2 ⟨fun x hx => ?_, hh.1⟩, fun x hx => ?_⟩
        · have := hh.2 x hx; omega
        · rcases List.mem_cons.1 hx with rfl | hx
          · exact Int.le_refl _
          · have := hh.2 x hx; omega
theorem path_of (l : List S46) (a : Int) : (ageIdx l a 0 < 0 ∧ ∀ n, pathOf l n a = []) ∨ ∃ i, i < l.length ∧ a = (l.getD i z46).f0 ∧ ageIdx l a 0 = (i : Int) := by
  rcases ageIdx_cases l a 0 with e | ⟨j, hj, e, hx⟩
  · refine .inl ⟨by omega, fun n => ?_⟩
    cases n with
    | zero => rfl
    | succ n => unfold pathOf; rw [if_pos (by omega)]
  · exact .inr ⟨j, hj, hx.symm, by simpa using e⟩

theorem ages_kid (l : List S46) (a b : Int) (p : List Int) (there : Bool) (ks : List Int) (i : Nat) (hi : i < ks.length) (hk : ks.length ≤ 16) (y : Int) (hr : rd ks (i : Int) = y) (k : Nat) (a1 : impl_PathOf.f k l y = some (y :: p)) (a2 : impl_IsFrom.f k l a y = some true) (a3 : laws_sameInts.f k p p = some true) (hp : p.length ≤ 17) :
    laws_FnAges.l1 (k + 1) l a b p there ks (i : Int) = laws_FnAges.l1 k l a b p there ks ((i + 1 : Nat) : Int) := by
  rw [laws_FnAges.l1]
  rw [if_pos (by omega), if_pos (by omega), hr, a1, Option.bind_some, if_pos (show ((y :: p).length : Int) = wrap64 ((p.length : Int) + 1) by rw [w64 (by omega) (by omega), List.length_cons]; omega), if_pos (show 1 ≤ ((y :: p).length : Int) by rw [List.length_cons]; omega), show List.drop 1 (y :: p) = p from rfl, a3, Option.bind_some, if_pos rfl, a2, Option.bind_some, if_pos rfl, w64s i (by omega)]
theorem ages_kid_ev (l : List S46) (a b : Int) (p : List Int) (there : Bool) (ks : List Int) (i : Nat) (hi : i < ks.length) (hk : ks.length ≤ 16) (hp : p.length ≤ 17) (hF : Ev (fun k => impl_PathOf.f k l (ks.getD i 0)) (ks.getD i 0 :: p)) (hG : Ev (fun k => impl_IsFrom.f k l a (ks.getD i 0)) true) :
    ∃ K d, ∀ k, K ≤ k → laws_FnAges.l1 (k + d) l a b p there ks (i : Int) = laws_FnAges.l1 k l a b p there ks ((i + 1 : Nat) : Int) := by
  obtain ⟨KF, hF⟩ := hF
  obtain ⟨KG, hG⟩ := hG
  obtain ⟨KH, hH⟩ := sameInts_ev p (by omega)
  exact ⟨KF + KG + KH, 1, fun k hk' => ages_kid l a b p there ks i hi hk _ (by simp [rd]) k (hF k (by omega)) (hG k (by omega)) (hH k (by omega)) hp⟩
theorem FnAges (l0 : List Int) (h0 : l0.length ≤ 9223372036854775807 ∧ ∀ x ∈ l0, (Lit.int .u8 x).wf = true) : ∃ k, laws_FnAges.f k l0 = some true := by
  apply Ev.rounds
  have hb : bytesIn l0 := fun x hx => wf_u8 (h0.2 x hx)
  by_cases c : (l0.length : Int) > 1048576
  · refine evOf fun k => ?_
    simp only [laws_FnAges.f, laws_big.f, Option.bind_some, decide_eq_true c, if_true]
  have hl : l0.length ≤ 1048576 := by omega
  obtain ⟨l, a, b, hok, e⟩ := DrawAges_ex l0 hb hl
  have hlen := agesOk_len hok
  have ho : okAgeS l := by unfold okAgeS; omega
  have hlp : ∀ x, (pathOf l (l.length + 1) x).length ≤ 17 := fun x => Nat.le_trans (pathOf_length l _ x) (by omega)
  have isFrom : ∀ x y, Ev (fun k => impl_IsFrom.f k l x y) ((pathOf l (l.length + 1) y).contains x) := fun x y => impl_IsFrom_ev l x y ho (by omega)
  have path : ∀ x, Ev (fun k => impl_PathOf.f k l x) (pathOf l (l.length + 1) x) := fun x => impl_PathOf_ev l x ho
  -- what is said of a path
  have falls : ∀ x, List.Pairwise (fun a b => b < a) (pathOf l (l.length + 1) x) ∧ (∀ y ∈ pathOf l (l.length + 1) x, y ≤ x) ∧ (0 ≤ ageIdx l x 0 → x ∈ pathOf l (l.length + 1) x) ∧ (¬ 0 ≤ ageIdx l x 0 → pathOf l (l.length + 1) x = []) := by
    intro x
    rcases path_of l x with ⟨q, hn⟩ | ⟨i, hi, rfl, q⟩
    · rw [hn]; exact ⟨List.Pairwise.nil, by simp, by omega, fun _ => rfl⟩
    · have := path_falls hok i hi (l.length + 1)
      refine ⟨this.1, this.2, fun _ => ?_, by omega⟩
      rw [path_step hok i hi]; exact List.mem_cons_self
  have hfa := falls a
  have hfb := falls b
  have e1 : (decide (ageIdx l a 0 ≥ 0) == decide (((pathOf l (l.length + 1) a).length : Int) > 0)) = true := by
    by_cases q : 0 ≤ ageIdx l a 0
    · have := List.length_pos_of_mem (hfa.2.2.1 q)
      rw [decide_eq_true (show ageIdx l a 0 ≥ 0 from q), decide_eq_true (by omega)]; rfl
    · rw [hfa.2.2.2 q, decide_eq_false (show ¬ ageIdx l a 0 ≥ 0 from q)]; rfl
  have e2 : ((pathOf l (l.length + 1) a).contains a == decide (ageIdx l a 0 ≥ 0)) = true := by
    by_cases q : 0 ≤ ageIdx l a 0
    · rw [decide_eq_true (show ageIdx l a 0 ≥ 0 from q), List.contains_iff_mem.2 (hfa.2.2.1 q)]; rfl
    · rw [hfa.2.2.2 q, decide_eq_false (show ¬ ageIdx l a 0 ≥ 0 from q)]; rfl
  have e3 : (pathOf l (l.length + 1) b).contains a = true → (pathOf l (l.length + 1) a).contains b = true → a = b := by
    intro x y
    have := hfb.2.1 a (List.contains_iff_mem.1 x)
    have := hfa.2.1 b (List.contains_iff_mem.1 y)
    omega
  obtain ⟨KA, hA⟩ := isFrom a a
  obtain ⟨KB, hB⟩ := isFrom a b
  obtain ⟨KC, hC⟩ := isFrom b a
  obtain ⟨KD, hD⟩ := path b
  obtain ⟨KE, hE⟩ := laws_hasInt_ev (pathOf l (l.length + 1) b) a (by have := hlp b; unfold okIntS; omega)
  have kids : ∀ c ∈ kidsOf l a, pathOf l (l.length + 1) c = c :: pathOf l (l.length + 1) a ∧ a ∈ pathOf l (l.length + 1) a := by
    intro c hc
    unfold kidsOf at hc
    obtain ⟨x, hx, rfl⟩ := List.mem_map.1 hc
    obtain ⟨hxl, hxa⟩ := List.mem_filter.1 hx
    simp only [Bool.and_eq_true, decide_eq_true_eq, Bool.not_eq_true', decide_eq_false_iff_not] at hxa
    obtain ⟨i, hi, hix⟩ := List.getElem_of_mem hxl
    have hg : l.getD i z46 = x := by rw [List.getD_eq_getElem?_getD, List.getElem?_eq_getElem hi, hix]; rfl
    rcases parent_of hok i hi with q | ⟨j, hj, q⟩
    · rw [hg] at q; omega
    · rw [hg, hxa.1] at q
      have p1 := path_step hok i hi l.length
      rw [hg, hxa.1, ← q, path_stable hok j (by omega) l.length (by omega), q] at p1
      refine ⟨p1, ?_⟩
      rw [← q, path_step hok j (by omega)]
      exact List.mem_cons_self
  have hkl : (kidsOf l a).length ≤ 16 := Nat.le_trans (kidsOf_length l a) hlen
  obtain ⟨K1, h1⟩ := evRange0 (σ := Unit) (kidsOf l a).length (fun k _ i => laws_FnAges.l1 k l a b (pathOf l (l.length + 1) a) (decide (ageIdx l a 0 ≥ 0)) (kidsOf l a) i) (fun _ _ => True) (fun _ _ => true) () trivial
    (by
      intro i _ hi _
      have kk := kids _ (getD_mem (kidsOf l a) i 0 hi)
      have e5 := path ((kidsOf l a).getD i 0)
      have e6 := isFrom a ((kidsOf l a).getD i 0)
      rw [kk.1] at e5 e6
      rw [List.contains_cons, List.contains_iff_mem.2 kk.2, Bool.or_true] at e6
      exact .inl ⟨(), trivial, rfl, ages_kid_ev l a b _ _ _ i hi hkl (hlp a) e5 e6⟩)
    (by
      intro _ _
      refine ⟨KA + KB + KC + KD + KE, 1, fun k hk => ?_⟩
      have a1 := hA k (by omega)
      have a2 := hB k (by omega)
      have a3 := hC k (by omega)
      have a4 := hD k (by omega)
      have a5 := hE k (by omega)
      simp only at a1 a2 a3 a4 a5
      simp only [laws_FnAges.l1]
      rw [if_neg (by omega), if_pos e1]
      simp only [a1, Option.bind_some]
      rw [if_pos e2]
      simp only [a2, a3, a4, a5, Option.bind_some, beq_self_eq_true]
      by_cases q : (pathOf l (l.length + 1) b).contains a = true
      · rw [if_pos q]
        by_cases q1 : (pathOf l (l.length + 1) a).contains b = true
        · rw [if_pos q1, if_pos (e3 q q1)]
        · rw [if_neg q1]
      · rw [if_neg q])
  obtain ⟨KK, hK⟩ := impl_KidsOf_ev l a (by omega)
  obtain ⟨K0, h2⟩ := evRange0 (σ := Unit) (pathOf l (l.length + 1) a).length (fun k _ i => laws_FnAges.l0 k l a b (pathOf l (l.length + 1) a) (decide (ageIdx l a 0 ≥ 0)) i) (fun _ _ => True) (fun _ _ => true) () trivial
    (by
      intro i _ hi _
      have hr : rd (pathOf l (l.length + 1) a) (i : Int) = (pathOf l (l.length + 1) a).getD i 0 := by simp [rd]
      have hm := getD_mem (pathOf l (l.length + 1) a) i 0 hi
      have hpl := hlp a
      obtain ⟨KG, hG⟩ := isFrom ((pathOf l (l.length + 1) a).getD i 0) a
      refine .inl ⟨(), trivial, rfl, KG, 1, fun k hk => ?_⟩
      have a2 := hG k (by omega)
      simp only at a2
      simp only [laws_FnAges.l0, hr, a2, Option.bind_some]
      rw [if_pos (by omega), if_pos (by omega), if_pos (List.contains_iff_mem.2 hm), w64s i (by omega)]
      by_cases q : (i : Int) > 0
      · have hr1 : rd (pathOf l (l.length + 1) a) ((i : Int) - 1) = (pathOf l (l.length + 1) a).getD (i - 1) 0 := by
          unfold rd; congr 1; omega
        have hlt := List.pairwise_iff_getElem.1 hfa.1 (i - 1) i (by omega) hi (by omega)
        have g0 : (pathOf l (l.length + 1) a).getD i 0 = (pathOf l (l.length + 1) a)[i] := by rw [List.getD_eq_getElem?_getD, List.getElem?_eq_getElem hi]; rfl
        have g1 : (pathOf l (l.length + 1) a).getD (i - 1) 0 = (pathOf l (l.length + 1) a)[i - 1] := by rw [List.getD_eq_getElem?_getD, List.getElem?_eq_getElem (by omega)]; rfl
        rw [if_pos q, w64 (x := (i : Int) - 1) (by omega) (by omega), if_pos (by omega), if_pos (by omega), hr1, g0, g1, if_neg (by omega)]
      · rw [if_neg q])
    (by
      intro _ _
      refine ⟨KK + K1, 1, fun k hk => ?_⟩
      have a1 := hK k (by omega)
      have a2 := h1 k (by omega)
      simp only at a1 a2
      simp only [laws_FnAges.l0]
      rw [if_neg (by omega)]
      simp only [a1, Option.bind_some]
      exact a2)
  obtain ⟨KP, hP⟩ := path a
  obtain ⟨KZ, hZ⟩ := e
  obtain ⟨KO, hO⟩ := impl_AgesOk_ev l ho
  refine ⟨K0 + KP + KZ + KO, fun k hk => ?_⟩
  have a1 := hP k (by omega)
  have a2 := hZ k (by omega)
  have a3 := hO k (by omega)
  have a4 := h2 k (by omega)
  simp only at a1 a2 a3 a4
  simp only [laws_FnAges.f, laws_big.f, Option.bind_some, decide_eq_false c, Bool.false_eq_true, if_false, a2, a3, hok, if_true, a1, impl_AgeAt.f]
  exact a4

end Go.Proofs.Ytpncphhbdkomjaa.Pure
