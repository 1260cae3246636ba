/- Whatever the arguments: the law answers true; said of the plain functions that the print made of the Go text, with no condition but that the arguments are of their kinds. -/
import Derived.Test.YtpncphhbdkomjaaMFnExactCutAgex0
import Derived.Test.YtpncphhbdkomjaaMFnExactCutAgex1
import Derived.Test.YtpncphhbdkomjaaMFnExactCutAgex2
import Derived.Test.YtpncphhbdkomjaaMFnExactCutAgex3
import Derived.Test.YtpncphhbdkomjaaMFnExactCutAgex4
import Derived.Test.YtpncphhbdkomjaaMFnExactCutAgex5
import Derived.Test.YtpncphhbdkomjaaCore
namespace Go.Proofs.Ytpncphhbdkomjaa.Pure
open Go.RowKit Go.Proofs.Ytpncphhbdkomjaa.PFnExactCutAge Go.Proofs.Ytpncphhbdkomjaa.Core Go.Proofs.YtpncphhbdkomjaaW.PrintWords Go.Proofs.YtpncphhbdkomjaaW.PrintLast
set_option linter.unusedSimpArgs false
set_option linter.unusedVariables false

def toA (x : S51) : S46 := ⟨x.f0, x.f1⟩

def okAgeS (l : List S46) : Prop := l.length ≤ 4194304
def cntAgeS (l : List S46) : Int := 2 * l.length
theorem cntAgeS_nn {l : List S46} (h : okAgeS l) : 0 ≤ cntAgeS l ∧ cntAgeS l ≤ 1073741824 := by unfold okAgeS at h; unfold cntAgeS; omega
def inAgeS (l : List S51) : Prop := l.length ≤ 1048576
def sumAgeS (l : List S51) : Int := l.length
theorem sumAgeS_nn (l : List S51) : 0 ≤ sumAgeS l := by unfold sumAgeS; omega
theorem in_of_sumAgeS {l : List S51} (h : sumAgeS l ≤ 1048576) : inAgeS l := by unfold sumAgeS at h; unfold inAgeS; omega
theorem ok_of_inAgeS {l : List S51} (h : inAgeS l) : okAgeS (l.map toA) := by unfold inAgeS at h; unfold okAgeS; rw [List.length_map]; omega

theorem szAgeS_f (l : List S51) (a : Int) (hl : l.length ≤ 9223372036854775807) (h0 : 0 ≤ a) (h1 : a ≤ 1048576) : laws_szAgeS.f l a = some (if a < sumAgeS l then -1 else a - sumAgeS l) := by
  unfold laws_szAgeS.f sumAgeS
  rw [w64 (by omega) (by omega)]
  by_cases h : a < (l.length : Int)
  · rw [if_pos (by omega), if_pos h]
  · rw [if_neg (by omega), if_neg h]
theorem szAgeS_big (l : List S51) (a : Int) (hl : l.length ≤ 9223372036854775807) (h0 : 0 ≤ a) (h1 : a ≤ 1048576) (h : a < sumAgeS l) : Ev (fun _ => laws_szAgeS.f l a) (-1) := evOf fun _ => by rw [szAgeS_f l a hl h0 h1, if_pos h]
theorem szAgeS_fit (l : List S51) (a : Int) (hl : l.length ≤ 9223372036854775807) (h0 : 0 ≤ a) (h1 : a ≤ 1048576) (h : ¬ a < sumAgeS l) : Ev (fun _ => laws_szAgeS.f l a) (a - sumAgeS l) := evOf fun _ => by rw [szAgeS_f l a hl h0 h1, if_neg h]

theorem toAgeS_ev (l : List S51) (hi : inAgeS l) : Ev (fun k => laws_toAgeS.f k l) (l.map toA) := by
  have h : l.length ≤ 1048576 := hi
  have hl : ∀ i, i ≤ l.length → (fill (fun i => toA (l.getD i z51)) (List.replicate l.length z46) i).length = l.length := fun i hi => by rw [fill_length _ _ _ (by simpa using hi)]; simp
  obtain ⟨K, hk⟩ := evRange0 (σ := List S46) l.length (fun k s i => laws_toAgeS.l0 k l s i) (fun i s => s = fill (fun i => toA (l.getD i z51)) (List.replicate l.length z46) i) (fun _ _ => l.map toA) (List.replicate l.length z46) (fill_zero _ _).symm
    (by
      intro i s hi hs
      subst hs
      refine .inl ⟨_, rfl, rfl, 0, 1, fun k _ => ?_⟩
      have h1 := hl i (by omega)
      simp only [laws_toAgeS.l0]
      rw [if_pos (by omega), if_pos (by omega)]
      simp only [laws_toAge.f, Option.bind_some]
      rw [if_pos (by omega), w64s i (by omega), Int.toNat_natCast, fill_set _ _ _ (by simpa using hi)]
      simp [toA, rd_T51])
    (by
      intro s hs
      subst hs
      refine ⟨0, 1, fun k _ => ?_⟩
      simp only [laws_toAgeS.l0]
      rw [if_neg (by omega)]
      have := fill_all (fun i => toA (l.getD i z51)) (List.replicate l.length z46)
      rw [List.length_replicate] at this
      rw [this, range_map])
  refine ⟨K, fun k hk' => ?_⟩
  simp only [laws_toAgeS.f]
  rw [if_pos (by omega), if_pos (by omega)]
  have e := hk k hk'
  simpa using e

theorem eqAge_refl (x : S46) : laws_eqAge.f x.f0 x.f1 x.f0 x.f1 = some true := by simp [laws_eqAge.f]
theorem eqAgeS_ev (l : List S46) (ho : okAgeS l) : Ev (fun k => laws_eqAgeS.f k l l) true := by
  have h : l.length ≤ 4194304 := ho
  obtain ⟨K, hk⟩ := evRange0 (σ := Unit) l.length (fun k _ i => laws_eqAgeS.l0 k l l i) (fun _ _ => True) (fun _ _ => true) () trivial
    (by
      intro i _ hi _
      refine .inl ⟨(), trivial, rfl, 0, 1, fun k _ => ?_⟩
      simp only [laws_eqAgeS.l0]
      rw [if_pos (by omega), if_pos (by omega), if_pos (by omega), eqAge_refl, w64s i (by omega)]
      rfl)
    (by
      intro _ _
      refine ⟨0, 1, fun k _ => ?_⟩
      simp only [laws_eqAgeS.l0]
      rw [if_neg (by omega)])
  refine ⟨K, fun k hk' => ?_⟩
  simp only [laws_eqAgeS.f]
  rw [if_pos trivial]
  exact hk k hk'

def mkA (a : Int) (i : Nat) : S46 := ⟨a + 2 * i, a + 2 * i + 1⟩
def mkAgeS (l : List S46) (a : Int) : List S46 := (List.range l.length).map (mkA a)
theorem mkAgeS_length (l : List S46) (a : Int) : (mkAgeS l a).length = l.length := by simp [mkAgeS]
theorem markAgeS_ev (l : List S46) (a : Int) (ho : okAgeS l) (h0 : 0 ≤ a) (h1 : a ≤ 1099511627776) : Ev (fun k => laws_markAgeS.f k l a) (a + cntAgeS l, mkAgeS l a) := by
  have h : l.length ≤ 4194304 := ho
  obtain ⟨K, hk⟩ := evRange0 (σ := List S46 × Int) l.length (fun k s i => laws_markAgeS.l0 k s.1 s.2 i) (fun i s => s = (fill (mkA a) l i, a + 2 * i)) (fun _ _ => (a + cntAgeS l, mkAgeS l a)) (l, a) (by simp [fill_zero])
    (by
      intro i s hi hs
      subst hs
      refine .inl ⟨_, rfl, rfl, 0, 1, fun k _ => ?_⟩
      have hl := fill_length (mkA a) l i (by omega)
      simp only [laws_markAgeS.l0]
      rw [if_pos (by omega), if_pos (by omega)]
      simp only [Option.bind_some]
      rw [w64 (x := a + 2 * (i : Int) + 1) (by omega) (by omega), w64 (x := a + 2 * (i : Int) + 1 + 1) (by omega) (by omega), w64s i (by omega), Int.toNat_natCast]
      have hr : ∀ (m : List S46) (v : S46), i < m.length → rd_T46 (m.set i v) (i : Int) = v := fun m v hm => by simp [rd_T46, hm]
      rw [hr _ _ (by omega)]
      simp only [List.set_set]
      rw [fill_set (mkA a) l i hi (show (⟨a + 2 * (i : Int), a + 2 * (i : Int) + 1⟩ : S46) = mkA a i from rfl)]
      congr 1
      push_cast
      omega)
    (by
      intro s hs
      subst hs
      refine ⟨0, 1, fun k _ => ?_⟩
      have hl := fill_length (mkA a) l l.length (by omega)
      simp only [laws_markAgeS.l0]
      rw [if_neg (by omega), fill_all]
      rfl)
  exact ⟨K, fun k hk' => hk k hk'⟩

def okIntS (l : List Int) : Prop := l.length ≤ 4194304
def cntIntS (l : List Int) : Int := l.length
theorem cntIntS_nn {l : List Int} (h : okIntS l) : 0 ≤ cntIntS l ∧ cntIntS l ≤ 1073741824 := by unfold okIntS at h; unfold cntIntS; omega
def inIntS (l : List Int) : Prop := l.length ≤ 1048576
theorem ok_of_inIntS {l : List Int} (h : inIntS l) : okIntS l := by unfold inIntS at h; unfold okIntS; omega
def sumIntS (l : List Int) : Int := l.length
theorem sumIntS_nn (l : List Int) : 0 ≤ sumIntS l := by unfold sumIntS; omega
theorem in_of_sumIntS {l : List Int} (h : sumIntS l ≤ 1048576) : inIntS l := by unfold sumIntS at h; unfold inIntS; omega

theorem ageIdx_cases (l : List S46) (a : Int) (j : Nat) : ageIdx l a j = -1 ∨ ∃ i, i < l.length ∧ ageIdx l a j = ((j + i : Nat) : Int) ∧ (l.getD i z46).f0 = a := by
  induction l generalizing j with
  | nil => exact .inl rfl
  | cons x xs ih =>
    unfold ageIdx
    by_cases h : x.f0 = a
    · rw [if_pos h]; exact .inr ⟨0, by simp, by simp, by simpa using h⟩
    · rw [if_neg h]
      rcases ih (j + 1) with e | ⟨i, hi, e, hx⟩
      · exact .inl e
      · exact .inr ⟨i + 1, by simpa using hi, by rw [e]; congr 1; omega, by simpa using hx⟩
theorem impl_AgeAt_ev (l : List S46) (a : Int) (h : okAgeS l) : Ev (fun _ => impl_AgeAt.f l a) (ageIdx l a 0) := evOf fun _ => rfl

theorem spec_AgeAt_ev (l : List S46) (a : Int) (h : okAgeS l) : Ev (fun k => spec_AgeAt.f k l a) (ageIdx l a 0) := by
  have h : l.length ≤ 4194304 := h
  obtain ⟨K, hk⟩ := evRange0 (σ := Unit) l.length (fun k _ i => spec_AgeAt.l0 k l a i) (fun _ _ => True) (fun i _ => ageIdx (l.drop i) a i) () trivial
    (by
      intro i _ hi _
      have hat := ageIdx_at l a i i hi
      have hr : rd_T46 l (i : Int) = l.getD i z46 := by simp [rd_T46]
      generalize l.getD i z46 = y at *
      by_cases h1 : y.f0 = a
      · refine .inr ⟨0, 1, fun k _ => ?_⟩
        simp only [spec_AgeAt.l0, hr]
        rw [if_pos (by omega), if_pos (by omega), if_pos h1, hat, if_pos h1]
      · refine .inl ⟨(), trivial, ?_, 0, 1, fun k _ => ?_⟩
        · rw [hat, if_neg h1]
        · simp only [spec_AgeAt.l0, hr]
          rw [if_pos (by omega), if_pos (by omega), if_neg h1, w64s i (by omega)])
    (by
      intro _ _
      refine ⟨0, 1, fun k _ => ?_⟩
      simp only [spec_AgeAt.l0]
      rw [if_neg (by omega), List.drop_length]
      rfl)
  exact ⟨K, fun k hk' => hk k hk'⟩

theorem spec_l1In_f (a b c : Int) : spec_l1In.f a b c = some (decide (b ≤ a ∧ a ≤ c)) := by
  unfold spec_l1In.f
  by_cases h : a ≥ b
  · rw [if_pos h]; congr 1; rw [Bool.eq_iff_iff]; simp; omega
  · rw [if_neg h]; congr 1; rw [Bool.eq_iff_iff]; simp; omega

def ageOkAt (l : List S46) (i : Nat) : Bool := decide (1 ≤ (l.getD i z46).f0 ∧ (l.getD i z46).f0 ≤ 60) && (decide (¬ ((i : Int) > 0 ∧ (l.getD (i - 1) z46).f0 ≥ (l.getD i z46).f0)) && decide ((l.getD i z46).f1 = 0 ∨ ¬ ageIdx (l.take i) (l.getD i z46).f1 0 < 0))
def agesOkB (l : List S46) : Bool := allFrom (ageOkAt l) l.length 0 && decide ((l.length : Int) ≤ 16)
theorem ageOkAt_of (l : List S46) (i : Nat) (b : Bool) (h : b = true ↔ (1 ≤ (l.getD i z46).f0 ∧ (l.getD i z46).f0 ≤ 60) ∧ ¬ ((i : Int) > 0 ∧ (l.getD (i - 1) z46).f0 ≥ (l.getD i z46).f0) ∧ ((l.getD i z46).f1 = 0 ∨ ¬ ageIdx (l.take i) (l.getD i z46).f1 0 < 0)) : ageOkAt l i = b := by
  rw [Bool.eq_iff_iff, h]
  simp only [ageOkAt, Bool.and_eq_true, decide_eq_true_eq]
theorem rdAge_prev (l : List S46) (i : Nat) (h0 : (i : Int) > 0) (h : i ≤ 4194304) : rd_T46 l (wrap64 ((i : Int) - 1)) = l.getD (i - 1) z46 := by
  rw [w64 (x := (i : Int) - 1) (by omega) (by omega)]
  unfold rd_T46
  congr 1
  omega

theorem spec_AgesOk_ev (l : List S46) (h : okAgeS l) : Ev (fun k => spec_AgesOk.f k l) (agesOkB l) := by
  have ho := h
  have h : l.length ≤ 4194304 := h
  refine evAll l.length (fun k i => spec_AgesOk.l0 k l i) (ageOkAt l) (decide ((l.length : Int) ≤ 16)) ?_ ?_ 0 (Nat.zero_le _)
  · intro i hi
    have hr : rd_T46 l (i : Int) = l.getD i z46 := by simp [rd_T46]
    obtain ⟨K, hK⟩ := spec_AgeAt_ev (l.take i) (l.getD i z46).f1 (by unfold okAgeS; rw [List.length_take]; omega)
    refine ⟨K, 2, fun k hk' => ?_⟩
    have hk := w64s i (by omega)
    have tail : ((1 ≤ (l.getD i z46).f0 ∧ (l.getD i z46).f0 ≤ 60) ∧ ¬ ((i : Int) > 0 ∧ (l.getD (i - 1) z46).f0 ≥ (l.getD i z46).f0)) →
        spec_AgesOk.j1 (k + 1) l i false = if ageOkAt l i = true then spec_AgesOk.l0 k l ((i + 1 : Nat) : Int) else some false := by
      intro hq
      simp only [spec_AgesOk.j1, hr, hk, Int.toNat_natCast, hK k hk', Option.bind_some]
      rw [if_neg (by decide), if_pos (by omega), if_pos (by omega), if_pos (show (i : Int) ≤ (l.length : Int) by omega)]
      by_cases q3 : (l.getD i z46).f1 = 0
      · rw [if_pos q3, ageOkAt_of l i true (by simp only [true_iff]; exact ⟨hq.1, hq.2, .inl q3⟩)]; simp
      · rw [if_neg q3]
        by_cases q4 : ageIdx (l.take i) (l.getD i z46).f1 0 < 0
        · rw [if_pos q4, ageOkAt_of l i false (by simp only [Bool.false_eq_true, false_iff]; exact fun hh => hh.2.2.elim q3 (fun h' => h' q4))]; simp
        · rw [if_neg q4, ageOkAt_of l i true (by simp only [true_iff]; exact ⟨hq.1, hq.2, .inr q4⟩)]; simp
    have stop : spec_AgesOk.j1 (k + 1) l i true = some false := by simp [spec_AgesOk.j1]
    show spec_AgesOk.l0 (k + 1 + 1) l i = _
    rw [spec_AgesOk.l0]
    simp only [hr, spec_l1In_f, Option.bind_some]
    rw [if_pos (by omega), if_pos (by omega)]
    by_cases q0 : 1 ≤ (l.getD i z46).f0 ∧ (l.getD i z46).f0 ≤ 60
    · rw [decide_eq_true q0, if_pos rfl]
      by_cases q1 : (i : Int) > 0
      · rw [if_pos q1, rdAge_prev l i q1 (by omega), w64 (x := (i : Int) - 1) (by omega) (by omega), if_pos (by omega), if_pos (by omega)]
        by_cases q2 : (l.getD (i - 1) z46).f0 ≥ (l.getD i z46).f0
        · rw [decide_eq_true q2, stop, ageOkAt_of l i false (by simp only [Bool.false_eq_true, false_iff]; exact fun hh => hh.2.1 ⟨q1, q2⟩)]; simp
        · rw [decide_eq_false q2]; exact tail ⟨q0, fun hh => q2 hh.2⟩
      · rw [if_neg q1]; exact tail ⟨q0, fun hh => q1 hh.1⟩
    · rw [decide_eq_false q0, if_neg (by decide), stop, ageOkAt_of l i false (by simp only [Bool.false_eq_true, false_iff]; exact fun hh => q0 hh.1)]; simp
  · refine ⟨0, 1, fun k _ => ?_⟩
    simp only [spec_AgesOk.l0]
    rw [if_neg (by omega)]

def cutFix (id frm : Int) (x : S46) : S46 := if x.f1 = id then ⟨x.f0, frm⟩ else x
def cutTail (id frm : Int) (m : Nat) (l : List S46) (i : Nat) : List S46 := if i ≤ m then ((l.map (cutFix id frm)).drop i).eraseIdx (m - i) else (l.map (cutFix id frm)).drop i
def cutAge (l : List S46) (id : Int) : List S46 × Bool := if ageIdx l id 0 < 0 then (l, false) else if agesOkB l = true then ((l.map (cutFix id (l.getD (ageIdx l id 0).toNat z46).f1)).eraseIdx (ageIdx l id 0).toNat, true) else (l, false)
theorem cutAge_len (l : List S46) (id : Int) (h : okAgeS l) : okAgeS (cutAge l id).1 := by
  have h : l.length ≤ 4194304 := h
  unfold cutAge okAgeS
  split
  · exact h
  · split
    · simp only
      have := List.length_eraseIdx_le (l.map (cutFix id (l.getD (ageIdx l id 0).toNat z46).f1)) (ageIdx l id 0).toNat
      rw [List.length_map] at this
      omega
    · exact h
theorem cutMap_drop (id frm : Int) (l : List S46) (i : Nat) (h : i < l.length) : (l.map (cutFix id frm)).drop i = cutFix id frm (l.getD i z46) :: (l.map (cutFix id frm)).drop (i + 1) := by
  rw [← List.map_drop, drop_getD l i z46 h, List.map_cons, List.map_drop]
theorem cutTail_at (id frm : Int) (m : Nat) (l : List S46) (i : Nat) (h : i < l.length) : cutTail id frm m l i = (if i = m then [] else [cutFix id frm (l.getD i z46)]) ++ cutTail id frm m l (i + 1) := by
  unfold cutTail
  rw [cutMap_drop id frm l i h]
  by_cases q : i = m
  · subst q
    rw [if_pos (Nat.le_refl _), if_pos rfl, if_neg (by omega), Nat.sub_self]
    rfl
  · rw [if_neg q]
    by_cases q2 : i ≤ m
    · rw [if_pos q2, if_pos (by omega), show m - i = (m - (i + 1)) + 1 by omega]
      rfl
    · rw [if_neg q2, if_neg (by omega)]
      rfl
theorem ageIdx_at0 (l : List S46) (a : Int) (h : ¬ ageIdx l a 0 < 0) : ∃ m, ageIdx l a 0 = ((m : Nat) : Int) ∧ m < l.length := by
  rcases ageIdx_cases l a 0 with e | ⟨i, hi, e, _⟩
  · omega
  · exact ⟨i, by rw [e]; omega, hi⟩

theorem spec_CutAge_ev (l : List S46) (id : Int) (h : okAgeS l) : Ev (fun k => spec_CutAge.f k l id) (cutAge l id) := by
  have hl : l.length ≤ 4194304 := h
  obtain ⟨K1, h1⟩ := spec_AgeAt_ev l id h
  obtain ⟨K2, h2⟩ := spec_AgesOk_ev l h
  by_cases q : ageIdx l id 0 < 0
  · refine ⟨K1 + 1, fun k hk => ?_⟩
    have a1 := h1 k (by omega)
    simp only at a1
    obtain ⟨k, rfl⟩ : ∃ m, k = m + 1 := ⟨k - 1, by omega⟩
    simp only [spec_CutAge.f, a1, Option.bind_some]
    rw [if_pos q]
    simp only [spec_CutAge.j0, if_true, Option.bind_some, List.length_nil, List.nil_append, cutAge, if_pos q]
    rw [if_pos (by omega)]
  obtain ⟨m, hm, hml⟩ := ageIdx_at0 l id q
  by_cases q2 : agesOkB l = true
  · obtain ⟨K3, h3⟩ := evRange0 (σ := List S46) l.length (fun k s i => spec_CutAge.l0 k l id (m : Int) s i) (fun i s => s.length ≤ i) (fun i s => (s ++ cutTail id (l.getD m z46).f1 m l i, true)) [] (by simp)
      (by
        intro i s hi hs
        have hr : rd_T46 l (i : Int) = l.getD i z46 := by simp [rd_T46]
        have hr2 : rd_T46 l (m : Int) = l.getD m z46 := by simp [rd_T46]
        have hc := cutTail_at id (l.getD m z46).f1 m l i hi
        refine .inl ⟨s ++ (if i = m then [] else [cutFix id (l.getD m z46).f1 (l.getD i z46)]), ?_, ?_, 0, 1, fun k _ => ?_⟩
        · split <;> simp <;> omega
        · rw [hc, List.append_assoc]
        · simp only [spec_CutAge.l0, hr, hr2]
          generalize l.getD i z46 = y at *
          generalize l.getD m z46 = ym at *
          rw [if_pos (by omega), if_pos (by omega), w64s i (by omega)]
          by_cases q3 : y.f1 = id
          · rw [if_pos q3, if_pos (by omega), if_pos (by omega)]
            by_cases q4 : i = m
            · rw [if_pos (by omega), if_pos q4, List.append_nil]
            · rw [if_neg (by omega), if_neg q4, if_pos (by omega), cutFix, if_pos q3]
          · rw [if_neg q3]
            by_cases q4 : i = m
            · rw [if_pos (by omega), if_pos q4, List.append_nil]
            · rw [if_neg (by omega), if_neg q4, if_pos (by omega), cutFix, if_neg q3])
      (by
        intro s hs
        refine ⟨0, 1, fun k _ => ?_⟩
        simp only [spec_CutAge.l0]
        rw [if_neg (by omega)]
        unfold cutTail
        rw [if_neg (by omega), List.drop_eq_nil_of_le (by simp), List.append_nil])
    refine ⟨K1 + K2 + K3 + 1, fun k hk => ?_⟩
    have a1 := h1 k (by omega)
    have a2 := h2 k (by omega)
    have a3 := h3 (k - 1) (by omega)
    simp only at a1 a2 a3
    obtain ⟨k, rfl⟩ : ∃ m, k = m + 1 := ⟨k - 1, by omega⟩
    simp only [spec_CutAge.f, a1, Option.bind_some]
    rw [if_neg q]
    simp only [a2, q2, Option.bind_some, Bool.not_true, spec_CutAge.j0, Bool.false_eq_true, if_false, hm]
    rw [Nat.add_sub_cancel] at a3
    rw [a3, cutAge, if_neg q, if_pos q2, hm]
    simp only [List.nil_append, cutTail, Int.toNat_natCast]
    rw [if_pos (Nat.zero_le _), List.drop_zero, Nat.sub_zero]
  · refine ⟨K1 + K2 + 1, fun k hk => ?_⟩
    have a1 := h1 k (by omega)
    have a2 := h2 k (by omega)
    simp only at a1 a2
    have q3 : agesOkB l = false := by simpa using q2
    obtain ⟨k, rfl⟩ : ∃ m, k = m + 1 := ⟨k - 1, by omega⟩
    simp only [spec_CutAge.f, a1, Option.bind_some]
    rw [if_neg q]
    simp only [a2, q3, Option.bind_some, Bool.not_false, spec_CutAge.j0, if_true, List.length_nil, List.nil_append]
    rw [if_pos (by omega), cutAge, if_neg q, if_neg q2]

theorem impl_within_f (a b c : Int) : impl_within.f a b c = some (decide (b ≤ a ∧ a ≤ c)) := by
  unfold impl_within.f
  by_cases h : a ≥ b
  · rw [if_pos h]; congr 1; rw [Bool.eq_iff_iff]; simp; omega
  · rw [if_neg h]; congr 1; rw [Bool.eq_iff_iff]; simp; omega

theorem impl_AgesOk_ev (l : List S46) (h : okAgeS l) : Ev (fun k => impl_AgesOk.f k l) (agesOkB l) := by
  have h : l.length ≤ 4194304 := h
  refine evAll l.length (fun k i => impl_AgesOk.l0 k l l (l.length : Int) i) (ageOkAt l) (decide ((l.length : Int) ≤ 16)) ?_ ?_ 0 (Nat.zero_le _)
  · intro i hi
    have hr : rd_T46 l (i : Int) = l.getD i z46 := by simp [rd_T46]
    refine ⟨0, 1, fun k _ => ?_⟩
    have hk := w64s i (by omega)
    have tail : ((1 ≤ (l.getD i z46).f0 ∧ (l.getD i z46).f0 ≤ 60) ∧ ¬ ((i : Int) > 0 ∧ (l.getD (i - 1) z46).f0 ≥ (l.getD i z46).f0)) →
        (if (l.getD i z46).f1 = 0 then impl_AgesOk.l0 k l l (l.length : Int) (wrap64 ((i : Int) + 1)) else if (i : Int) ≤ (l.length : Int) then (impl_AgeAt.f (l.take (i : Int).toNat) (l.getD i z46).f1).bind fun t => if t < 0 then some false else impl_AgesOk.l0 k l l (l.length : Int) (wrap64 ((i : Int) + 1)) else none) = if ageOkAt l i = true then impl_AgesOk.l0 k l l (l.length : Int) ((i + 1 : Nat) : Int) else some false := by
      intro hq
      rw [hk, if_pos (show (i : Int) ≤ (l.length : Int) by omega), Int.toNat_natCast]
      simp only [impl_AgeAt.f, Option.bind_some]
      by_cases q3 : (l.getD i z46).f1 = 0
      · rw [if_pos q3, ageOkAt_of l i true (by simp only [true_iff]; exact ⟨hq.1, hq.2, .inl q3⟩)]; simp
      · rw [if_neg q3]
        by_cases q4 : ageIdx (l.take i) (l.getD i z46).f1 0 < 0
        · rw [if_pos q4, ageOkAt_of l i false (by simp only [Bool.false_eq_true, false_iff]; exact fun hh => hh.2.2.elim q3 (fun h' => h' q4))]; simp
        · rw [if_neg q4, ageOkAt_of l i true (by simp only [true_iff]; exact ⟨hq.1, hq.2, .inr q4⟩)]; simp
    simp only [impl_AgesOk.l0, hr, impl_within_f, Option.bind_some]
    rw [if_pos (by omega), if_pos (by omega), if_pos (by omega)]
    by_cases q0 : 1 ≤ (l.getD i z46).f0 ∧ (l.getD i z46).f0 ≤ 60
    · rw [decide_eq_true q0, if_pos rfl]
      by_cases q1 : (i : Int) > 0
      · rw [if_pos q1, rdAge_prev l i q1 (by omega), w64 (x := (i : Int) - 1) (by omega) (by omega), if_pos (by omega), if_pos (by omega)]
        by_cases q2 : (l.getD (i - 1) z46).f0 ≥ (l.getD i z46).f0
        · rw [if_pos q2, ageOkAt_of l i false (by simp only [Bool.false_eq_true, false_iff]; exact fun hh => hh.2.1 ⟨q1, q2⟩)]; simp
        · rw [if_neg q2]; exact tail ⟨q0, fun hh => q2 hh.2⟩
      · rw [if_neg q1]; exact tail ⟨q0, fun hh => q1 hh.1⟩
    · rw [decide_eq_false q0, if_neg (by decide), ageOkAt_of l i false (by simp only [Bool.false_eq_true, false_iff]; exact fun hh => q0 hh.1)]; simp
  · refine ⟨0, 1, fun k _ => ?_⟩
    simp only [impl_AgesOk.l0]
    rw [if_neg (by omega)]

theorem impl_CutAge_ev (l : List S46) (id : Int) (h : okAgeS l) : Ev (fun k => impl_CutAge.f k l id) (cutAge l id) := by
  have hl : l.length ≤ 4194304 := h
  obtain ⟨K2, h2⟩ := impl_AgesOk_ev l h
  have hcp : impl_copyAges.f l = some l := by
    simp only [impl_copyAges.f, Option.bind_some, List.length_nil, List.nil_append]
    rw [if_pos (by omega)]
  by_cases q : ageIdx l id 0 < 0
  · refine ⟨1, fun k hk => ?_⟩
    obtain ⟨k, rfl⟩ : ∃ m, k = m + 1 := ⟨k - 1, by omega⟩
    simp only [impl_CutAge.f, impl_AgeAt.f, hcp, Option.bind_some]
    rw [if_pos q]
    simp only [impl_CutAge.j0, if_true, cutAge, if_pos q]
  obtain ⟨m, hm, hml⟩ := ageIdx_at0 l id q
  by_cases q2 : agesOkB l = true
  · obtain ⟨K3, h3⟩ := evRange0 (σ := List S46) l.length (fun k s i => impl_CutAge.l0 k l id (m : Int) s (l.length : Int) i) (fun i s => s = (l.map (cutFix id (l.getD m z46).f1)).take i ++ l.drop i) (fun i s => ((l.map (cutFix id (l.getD m z46).f1)).eraseIdx m, true)) l (by simp)
      (by
        intro i s hi hs
        have hr2 : rd_T46 l (m : Int) = l.getD m z46 := by simp [rd_T46]
        have hlen : s.length = l.length := by rw [hs]; simp; omega
        have hd := drop_getD l i z46 hi
        have htl : ((l.map (cutFix id (l.getD m z46).f1)).take i).length = i := by simp; omega
        have hr : rd_T46 s (i : Int) = l.getD i z46 := by
          unfold rd_T46
          rw [Int.toNat_natCast, hs, List.getD_eq_getElem?_getD, List.getElem?_append_right (by omega), htl, Nat.sub_self, hd]
          rfl
        have htk : (l.map (cutFix id (l.getD m z46).f1)).take (i + 1) = (l.map (cutFix id (l.getD m z46).f1)).take i ++ [cutFix id (l.getD m z46).f1 (l.getD i z46)] := by
          rw [take_getD _ i z46 (by simpa using hi)]
          congr 2
          have e1 : ∀ (a : List S46) (h : i < a.length), a.getD i z46 = a[i] := fun a h => by rw [List.getD_eq_getElem?_getD, List.getElem?_eq_getElem h]; rfl
          rw [e1 _ (by simpa using hi), e1 l hi, List.getElem_map]
        have hset : ∀ x, s.set i x = (l.map (cutFix id (l.getD m z46).f1)).take i ++ x :: l.drop (i + 1) := by
          intro x
          rw [hs, List.set_append_right _ _ (by omega), htl, Nat.sub_self, hd]
          rfl
        refine .inl ⟨s.set i (cutFix id (l.getD m z46).f1 (l.getD i z46)), ?_, rfl, 0, 1, fun k _ => ?_⟩
        · rw [hset, htk, List.append_assoc]; rfl
        · simp only [impl_CutAge.l0, hr, hr2]
          rw [if_pos (by omega), if_pos (by omega), if_pos (by omega), w64s i (by omega)]
          have hself : s.set i (l.getD i z46) = s := by rw [hset, ← hd, ← hs]
          generalize l.getD i z46 = y at *
          generalize l.getD m z46 = ym at *
          by_cases q3 : y.f1 = id
          · rw [if_pos q3, if_pos (by omega), if_pos (by omega), cutFix, if_pos q3, Int.toNat_natCast]
          · rw [if_neg q3, cutFix, if_neg q3, hself])
      (by
        intro s hs
        refine ⟨0, 1, fun k _ => ?_⟩
        have hs2 : s = l.map (cutFix id (l.getD m z46).f1) := by rw [hs, List.drop_length, List.append_nil, List.take_of_length_le (by simp)]
        have hlen : s.length = l.length := by rw [hs2, List.length_map]
        simp only [impl_CutAge.l0, impl_Age_54.f]
        rw [if_neg (by omega), w64s m (by omega), if_pos (by omega), if_pos (by omega), if_pos (by omega)]
        simp only [Option.bind_some, Int.toNat_natCast, hs2])
    refine ⟨K2 + K3 + 1, fun k hk => ?_⟩
    have a2 := h2 k (by omega)
    have a3 := h3 (k - 1) (by omega)
    simp only at a2 a3
    obtain ⟨k, rfl⟩ : ∃ m, k = m + 1 := ⟨k - 1, by omega⟩
    simp only [impl_CutAge.f, impl_AgeAt.f, hcp, Option.bind_some]
    rw [if_neg q]
    simp only [a2, q2, Option.bind_some, Bool.not_true, impl_CutAge.j0, Bool.false_eq_true, if_false, hm]
    rw [Nat.add_sub_cancel] at a3
    rw [a3, cutAge, if_neg q, if_pos q2, hm]
    rfl
  · refine ⟨K2 + 1, fun k hk => ?_⟩
    have a2 := h2 k (by omega)
    simp only at a2
    have q3 : agesOkB l = false := by simpa using q2
    obtain ⟨k, rfl⟩ : ∃ m, k = m + 1 := ⟨k - 1, by omega⟩
    simp only [impl_CutAge.f, impl_AgeAt.f, hcp, Option.bind_some]
    rw [if_neg q]
    simp only [a2, q3, Option.bind_some, Bool.not_false, impl_CutAge.j0, if_true]
    rw [cutAge, if_neg q, if_neg q2]

theorem heldAgeS_ev (l : List S46) (a : Int) (ho : okAgeS l) (h0 : 0 ≤ a) (h1 : a ≤ 1099511627776) : Ev (fun k => laws_heldAgeS.f k (mkAgeS l a) a) (a + cntAgeS l) := by
  have h : l.length ≤ 4194304 := ho
  have hl := mkAgeS_length l a
  obtain ⟨K, hk⟩ := evRange0 (σ := Int) l.length (fun k s i => laws_heldAgeS.l0 k (mkAgeS l a) s i) (fun i s => s = a + 2 * i) (fun _ _ => a + cntAgeS l) a (by simp)
    (by
      intro i s hi hs
      subst hs
      refine .inl ⟨_, rfl, rfl, 0, 1, fun k _ => ?_⟩
      have hr : rd_T46 (mkAgeS l a) (i : Int) = mkA a i := by
        unfold rd_T46 mkAgeS
        rw [Int.toNat_natCast, range_getD _ _ _ _ hi]
      simp only [laws_heldAgeS.l0]
      rw [if_pos (by omega), if_pos (by omega), hr]
      rw [w64 (x := a + 2 * (i : Int) + 1) (by omega) (by omega), w64 (x := a + 2 * (i : Int) + 1 + 1) (by omega) (by omega), w64s i (by omega)]
      rw [if_pos (show (mkA a i).f0 = a + 2 * (i : Int) from rfl), if_pos (show (mkA a i).f1 = a + 2 * (i : Int) + 1 from rfl)]
      congr 1
      push_cast
      omega)
    (by
      intro s hs
      subst hs
      refine ⟨0, 1, fun k _ => ?_⟩
      simp only [laws_heldAgeS.l0]
      rw [if_neg (by omega)]
      rfl)
  exact ⟨K, fun k hk' => hk k hk'⟩

theorem FnExactCutAge (l0 : List (S51)) (a1 : Int) (h0 : (l0.length ≤ 9223372036854775807 ∧ ∀ y0 ∈ l0, ((Lit.int .i64 y0.f0).wf = true ∧ (Lit.int .i64 y0.f1).wf = true))) (h1 : (Lit.int .i64 a1).wf = true) : ∃ k, laws_FnExactCutAge.f k l0 a1 = some true := by
  apply Ev.rounds
  unfold laws_FnExactCutAge.f
  have u0_0 := sumAgeS_nn l0
  by_cases c0 : 1048576 < sumAgeS l0
  · refine Ev.bind (szAgeS_big l0 _ h0.1 (by omega) (by omega) c0) ?_
    simp only [if_pos (show (-1 : Int) < 0 by decide)]; exact Ev.now _
  refine Ev.bind (szAgeS_fit l0 _ h0.1 (by omega) (by omega) c0) ?_
  simp only [if_neg (show ¬ (1048576 - sumAgeS l0 : Int) < 0 by omega)]
  have i0 : inAgeS l0 := in_of_sumAgeS (by omega)
  have o0 : okAgeS (l0.map toA) := ok_of_inAgeS i0
  have q0 := cntAgeS_nn o0
  have oR : okAgeS ((cutAge (l0.map toA) a1).1) := (cutAge_len _ _ o0)
  have qR := cntAgeS_nn oR
  repeat' (first
    | exact Ev.now _
    | (refine Ev.bind (toAgeS_ev _ (by assumption)) ?_)
    | (refine Ev.bind (eqAgeS_ev _ (by assumption)) ?_)
    | (refine Ev.bind (markAgeS_ev _ _ (by assumption) (by omega) (by omega)) ?_)
    | (refine Ev.bind (heldAgeS_ev _ _ (by assumption) (by omega) (by omega)) ?_)
    | (refine Ev.bind (impl_CutAge_ev _ _ o0) ?_)
    | (refine Ev.bind (spec_CutAge_ev _ _ o0) ?_)
    | (simp only [Option.bind_some, ↓reduceIte, bne_self_eq_false, Bool.false_eq_true, Bool.not_true, eq_self, if_neg (show ¬ 1 + cntAgeS (l0.map toA) < 0 by omega), if_neg (show ¬ 1 + cntAgeS ((cutAge (l0.map toA) a1).1) < 0 by omega)])
    | (refine Ev.step (fun _ => rfl) ?_; simp only [laws_FnExactCutAge.j0])
    | (refine Ev.step (fun _ => rfl) ?_; simp only [laws_FnExactCutAge.j1])
    | (refine Ev.step (fun _ => rfl) ?_; simp only [laws_FnExactCutAge.j2]))

end Go.Proofs.Ytpncphhbdkomjaa.Pure
