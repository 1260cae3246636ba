/- Whatever the arguments: the law answers true; said of the plain functions that the print made of the Go text, with no condition but that the arguments are of their kinds. -/
import Derived.Test.YtpncphhbdkomjaaMFnExactNewAgex0
import Derived.Test.YtpncphhbdkomjaaMFnExactNewAgex1
import Derived.Test.YtpncphhbdkomjaaMFnExactNewAgex2
import Derived.Test.YtpncphhbdkomjaaMFnExactNewAgex3
import Derived.Test.YtpncphhbdkomjaaMFnExactNewAgex4
import Derived.Test.YtpncphhbdkomjaaMFnExactNewAgex5
import Derived.Test.YtpncphhbdkomjaaMFnExactNewAgex6
import Derived.Test.YtpncphhbdkomjaaCore
namespace Go.Proofs.Ytpncphhbdkomjaa.Pure
open Go.RowKit Go.Proofs.Ytpncphhbdkomjaa.PFnExactNewAge Go.Proofs.Ytpncphhbdkomjaa.Core Go.Proofs.YtpncphhbdkomjaaW.PrintWords Go.Proofs.YtpncphhbdkomjaaW.PrintLast
set_option linter.unusedSimpArgs false
set_option linter.unusedVariables false

def toA (x : S51) : S46 := ⟨x.f0, x.f1⟩

def okAgeS (l : List S46) : Prop := l.length ≤ 4194304
def cntAgeS (l : List S46) : Int := 2 * l.length
theorem cntAgeS_nn {l : List S46} (h : okAgeS l) : 0 ≤ cntAgeS l ∧ cntAgeS l ≤ 1073741824 := by unfold okAgeS at h; unfold cntAgeS; omega
def inAgeS (l : List S51) : Prop := l.length ≤ 1048576
def sumAgeS (l : List S51) : Int := l.length
theorem sumAgeS_nn (l : List S51) : 0 ≤ sumAgeS l := by unfold sumAgeS; omega
theorem in_of_sumAgeS {l : List S51} (h : sumAgeS l ≤ 1048576) : inAgeS l := by unfold sumAgeS at h; unfold inAgeS; omega
theorem ok_of_inAgeS {l : List S51} (h : inAgeS l) : okAgeS (l.map toA) := by unfold inAgeS at h; unfold okAgeS; rw [List.length_map]; omega

theorem szAgeS_f (l : List S51) (a : Int) (hl : l.length ≤ 9223372036854775807) (h0 : 0 ≤ a) (h1 : a ≤ 1048576) : laws_szAgeS.f l a = some (if a < sumAgeS l then -1 else a - sumAgeS l) := by
  unfold laws_szAgeS.f sumAgeS
  rw [w64 (by omega) (by omega)]
  by_cases h : a < (l.length : Int)
  · rw [if_pos (by omega), if_pos h]
  · rw [if_neg (by omega), if_neg h]
theorem szAgeS_big (l : List S51) (a : Int) (hl : l.length ≤ 9223372036854775807) (h0 : 0 ≤ a) (h1 : a ≤ 1048576) (h : a < sumAgeS l) : Ev (fun _ => laws_szAgeS.f l a) (-1) := evOf fun _ => by rw [szAgeS_f l a hl h0 h1, if_pos h]
theorem szAgeS_fit (l : List S51) (a : Int) (hl : l.length ≤ 9223372036854775807) (h0 : 0 ≤ a) (h1 : a ≤ 1048576) (h : ¬ a < sumAgeS l) : Ev (fun _ => laws_szAgeS.f l a) (a - sumAgeS l) := evOf fun _ => by rw [szAgeS_f l a hl h0 h1, if_neg h]

theorem toAgeS_ev (l : List S51) (hi : inAgeS l) : Ev (fun k => laws_toAgeS.f k l) (l.map toA) := by
  have h : l.length ≤ 1048576 := hi
  have hl : ∀ i, i ≤ l.length → (fill (fun i => toA (l.getD i z51)) (List.replicate l.length z46) i).length = l.length := fun i hi => by rw [fill_length _ _ _ (by simpa using hi)]; simp
  obtain ⟨K, hk⟩ := evRange0 (σ := List S46) l.length (fun k s i => laws_toAgeS.l0 k l s i) (fun i s => s = fill (fun i => toA (l.getD i z51)) (List.replicate l.length z46) i) (fun _ _ => l.map toA) (List.replicate l.length z46) (fill_zero _ _).symm
    (by
      intro i s hi hs
      subst hs
      refine .inl ⟨_, rfl, rfl, 0, 1, fun k _ => ?_⟩
      have h1 := hl i (by omega)
      simp only [laws_toAgeS.l0]
      rw [if_pos (by omega), if_pos (by omega)]
      simp only [laws_toAge.f, Option.bind_some]
      rw [if_pos (by omega), w64s i (by omega), Int.toNat_natCast, fill_set _ _ _ (by simpa using hi)]
      simp [toA, rd_T51])
    (by
      intro s hs
      subst hs
      refine ⟨0, 1, fun k _ => ?_⟩
      simp only [laws_toAgeS.l0]
      rw [if_neg (by omega)]
      have := fill_all (fun i => toA (l.getD i z51)) (List.replicate l.length z46)
      rw [List.length_replicate] at this
      rw [this, range_map])
  refine ⟨K, fun k hk' => ?_⟩
  simp only [laws_toAgeS.f]
  rw [if_pos (by omega), if_pos (by omega)]
  have e := hk k hk'
  simpa using e

theorem eqAge_refl (x : S46) : laws_eqAge.f x.f0 x.f1 x.f0 x.f1 = some true := by simp [laws_eqAge.f]
theorem eqAgeS_ev (l : List S46) (ho : okAgeS l) : Ev (fun k => laws_eqAgeS.f k l l) true := by
  have h : l.length ≤ 4194304 := ho
  obtain ⟨K, hk⟩ := evRange0 (σ := Unit) l.length (fun k _ i => laws_eqAgeS.l0 k l l i) (fun _ _ => True) (fun _ _ => true) () trivial
    (by
      intro i _ hi _
      refine .inl ⟨(), trivial, rfl, 0, 1, fun k _ => ?_⟩
      simp only [laws_eqAgeS.l0]
      rw [if_pos (by omega), if_pos (by omega), if_pos (by omega), eqAge_refl, w64s i (by omega)]
      rfl)
    (by
      intro _ _
      refine ⟨0, 1, fun k _ => ?_⟩
      simp only [laws_eqAgeS.l0]
      rw [if_neg (by omega)])
  refine ⟨K, fun k hk' => ?_⟩
  simp only [laws_eqAgeS.f]
  rw [if_pos trivial]
  exact hk k hk'

def mkA (a : Int) (i : Nat) : S46 := ⟨a + 2 * i, a + 2 * i + 1⟩
def mkAgeS (l : List S46) (a : Int) : List S46 := (List.range l.length).map (mkA a)
theorem mkAgeS_length (l : List S46) (a : Int) : (mkAgeS l a).length = l.length := by simp [mkAgeS]
theorem markAgeS_ev (l : List S46) (a : Int) (ho : okAgeS l) (h0 : 0 ≤ a) (h1 : a ≤ 1099511627776) : Ev (fun k => laws_markAgeS.f k l a) (a + cntAgeS l, mkAgeS l a) := by
  have h : l.length ≤ 4194304 := ho
  obtain ⟨K, hk⟩ := evRange0 (σ := List S46 × Int) l.length (fun k s i => laws_markAgeS.l0 k s.1 s.2 i) (fun i s => s = (fill (mkA a) l i, a + 2 * i)) (fun _ _ => (a + cntAgeS l, mkAgeS l a)) (l, a) (by simp [fill_zero])
    (by
      intro i s hi hs
      subst hs
      refine .inl ⟨_, rfl, rfl, 0, 1, fun k _ => ?_⟩
      have hl := fill_length (mkA a) l i (by omega)
      simp only [laws_markAgeS.l0]
      rw [if_pos (by omega), if_pos (by omega)]
      simp only [Option.bind_some]
      rw [w64 (x := a + 2 * (i : Int) + 1) (by omega) (by omega), w64 (x := a + 2 * (i : Int) + 1 + 1) (by omega) (by omega), w64s i (by omega), Int.toNat_natCast]
      have hr : ∀ (m : List S46) (v : S46), i < m.length → rd_T46 (m.set i v) (i : Int) = v := fun m v hm => by simp [rd_T46, hm]
      rw [hr _ _ (by omega)]
      simp only [List.set_set]
      rw [fill_set (mkA a) l i hi (show (⟨a + 2 * (i : Int), a + 2 * (i : Int) + 1⟩ : S46) = mkA a i from rfl)]
      congr 1
      push_cast
      omega)
    (by
      intro s hs
      subst hs
      refine ⟨0, 1, fun k _ => ?_⟩
      have hl := fill_length (mkA a) l l.length (by omega)
      simp only [laws_markAgeS.l0]
      rw [if_neg (by omega), fill_all]
      rfl)
  exact ⟨K, fun k hk' => hk k hk'⟩

theorem heldAgeS_ev (l : List S46) (a : Int) (ho : okAgeS l) (h0 : 0 ≤ a) (h1 : a ≤ 1099511627776) : Ev (fun k => laws_heldAgeS.f k (mkAgeS l a) a) (a + cntAgeS l) := by
  have h : l.length ≤ 4194304 := ho
  have hl := mkAgeS_length l a
  obtain ⟨K, hk⟩ := evRange0 (σ := Int) l.length (fun k s i => laws_heldAgeS.l0 k (mkAgeS l a) s i) (fun i s => s = a + 2 * i) (fun _ _ => a + cntAgeS l) a (by simp)
    (by
      intro i s hi hs
      subst hs
      refine .inl ⟨_, rfl, rfl, 0, 1, fun k _ => ?_⟩
      have hr : rd_T46 (mkAgeS l a) (i : Int) = mkA a i := by
        unfold rd_T46 mkAgeS
        rw [Int.toNat_natCast, range_getD _ _ _ _ hi]
      simp only [laws_heldAgeS.l0]
      rw [if_pos (by omega), if_pos (by omega), hr]
      rw [w64 (x := a + 2 * (i : Int) + 1) (by omega) (by omega), w64 (x := a + 2 * (i : Int) + 1 + 1) (by omega) (by omega), w64s i (by omega)]
      rw [if_pos (show (mkA a i).f0 = a + 2 * (i : Int) from rfl), if_pos (show (mkA a i).f1 = a + 2 * (i : Int) + 1 from rfl)]
      congr 1
      push_cast
      omega)
    (by
      intro s hs
      subst hs
      refine ⟨0, 1, fun k _ => ?_⟩
      simp only [laws_heldAgeS.l0]
      rw [if_neg (by omega)]
      rfl)
  exact ⟨K, fun k hk' => hk k hk'⟩

def okIntS (l : List Int) : Prop := l.length ≤ 4194304
def cntIntS (l : List Int) : Int := l.length
theorem cntIntS_nn {l : List Int} (h : okIntS l) : 0 ≤ cntIntS l ∧ cntIntS l ≤ 1073741824 := by unfold okIntS at h; unfold cntIntS; omega
def inIntS (l : List Int) : Prop := l.length ≤ 1048576
theorem ok_of_inIntS {l : List Int} (h : inIntS l) : okIntS l := by unfold inIntS at h; unfold okIntS; omega
def sumIntS (l : List Int) : Int := l.length
theorem sumIntS_nn (l : List Int) : 0 ≤ sumIntS l := by unfold sumIntS; omega
theorem in_of_sumIntS {l : List Int} (h : sumIntS l ≤ 1048576) : inIntS l := by unfold sumIntS at h; unfold inIntS; omega

theorem ageIdx_cases (l : List S46) (a : Int) (j : Nat) : ageIdx l a j = -1 ∨ ∃ i, i < l.length ∧ ageIdx l a j = ((j + i : Nat) : Int) ∧ (l.getD i z46).f0 = a := by
  induction l generalizing j with
  | nil => exact .inl rfl
  | cons x xs ih =>
    unfold ageIdx
    by_cases h : x.f0 = a
    · rw [if_pos h]; exact .inr ⟨0, by simp, by simp, by simpa using h⟩
    · rw [if_neg h]
      rcases ih (j + 1) with e | ⟨i, hi, e, hx⟩
      · exact .inl e
      · exact .inr ⟨i + 1, by simpa using hi, by rw [e]; congr 1; omega, by simpa using hx⟩
theorem impl_AgeAt_ev (l : List S46) (a : Int) (h : okAgeS l) : Ev (fun _ => impl_AgeAt.f l a) (ageIdx l a 0) := evOf fun _ => rfl

theorem spec_AgeAt_ev (l : List S46) (a : Int) (h : okAgeS l) : Ev (fun k => spec_AgeAt.f k l a) (ageIdx l a 0) := by
  have h : l.length ≤ 4194304 := h
  obtain ⟨K, hk⟩ := evRange0 (σ := Unit) l.length (fun k _ i => spec_AgeAt.l0 k l a i) (fun _ _ => True) (fun i _ => ageIdx (l.drop i) a i) () trivial
    (by
      intro i _ hi _
      have hat := ageIdx_at l a i i hi
      have hr : rd_T46 l (i : Int) = l.getD i z46 := by simp [rd_T46]
      generalize l.getD i z46 = y at *
      by_cases h1 : y.f0 = a
      · refine .inr ⟨0, 1, fun k _ => ?_⟩
        simp only [spec_AgeAt.l0, hr]
        rw [if_pos (by omega), if_pos (by omega), if_pos h1, hat, if_pos h1]
      · refine .inl ⟨(), trivial, ?_, 0, 1, fun k _ => ?_⟩
        · rw [hat, if_neg h1]
        · simp only [spec_AgeAt.l0, hr]
          rw [if_pos (by omega), if_pos (by omega), if_neg h1, w64s i (by omega)])
    (by
      intro _ _
      refine ⟨0, 1, fun k _ => ?_⟩
      simp only [spec_AgeAt.l0]
      rw [if_neg (by omega), List.drop_length]
      rfl)
  exact ⟨K, fun k hk' => hk k hk'⟩

theorem spec_l1In_f (a b c : Int) : spec_l1In.f a b c = some (decide (b ≤ a ∧ a ≤ c)) := by
  unfold spec_l1In.f
  by_cases h : a ≥ b
  · rw [if_pos h]; congr 1; rw [Bool.eq_iff_iff]; simp; omega
  · rw [if_neg h]; congr 1; rw [Bool.eq_iff_iff]; simp; omega

def ageOkAt (l : List S46) (i : Nat) : Bool := decide (1 ≤ (l.getD i z46).f0 ∧ (l.getD i z46).f0 ≤ 60) && (decide (¬ ((i : Int) > 0 ∧ (l.getD (i - 1) z46).f0 ≥ (l.getD i z46).f0)) && decide ((l.getD i z46).f1 = 0 ∨ ¬ ageIdx (l.take i) (l.getD i z46).f1 0 < 0))
def agesOkB (l : List S46) : Bool := allFrom (ageOkAt l) l.length 0 && decide ((l.length : Int) ≤ 16)
theorem ageOkAt_of (l : List S46) (i : Nat) (b : Bool) (h : b = true ↔ (1 ≤ (l.getD i z46).f0 ∧ (l.getD i z46).f0 ≤ 60) ∧ ¬ ((i : Int) > 0 ∧ (l.getD (i - 1) z46).f0 ≥ (l.getD i z46).f0) ∧ ((l.getD i z46).f1 = 0 ∨ ¬ ageIdx (l.take i) (l.getD i z46).f1 0 < 0)) : ageOkAt l i = b := by
  rw [Bool.eq_iff_iff, h]
  simp only [ageOkAt, Bool.and_eq_true, decide_eq_true_eq]
theorem rdAge_prev (l : List S46) (i : Nat) (h0 : (i : Int) > 0) (h : i ≤ 4194304) : rd_T46 l (wrap64 ((i : Int) - 1)) = l.getD (i - 1) z46 := by
  rw [w64 (x := (i : Int) - 1) (by omega) (by omega)]
  unfold rd_T46
  congr 1
  omega

theorem spec_AgesOk_ev (l : List S46) (h : okAgeS l) : Ev (fun k => spec_AgesOk.f k l) (agesOkB l) := by
  have ho := h
  have h : l.length ≤ 4194304 := h
  refine evAll l.length (fun k i => spec_AgesOk.l0 k l i) (ageOkAt l) (decide ((l.length : Int) ≤ 16)) ?_ ?_ 0 (Nat.zero_le _)
  · intro i hi
    have hr : rd_T46 l (i : Int) = l.getD i z46 := by simp [rd_T46]
    obtain ⟨K, hK⟩ := spec_AgeAt_ev (l.take i) (l.getD i z46).f1 (by unfold okAgeS; rw [List.length_take]; omega)
    refine ⟨K, 2, fun k hk' => ?_⟩
    have hk := w64s i (by omega)
    have tail : ((1 ≤ (l.getD i z46).f0 ∧ (l.getD i z46).f0 ≤ 60) ∧ ¬ ((i : Int) > 0 ∧ (l.getD (i - 1) z46).f0 ≥ (l.getD i z46).f0)) →
        spec_AgesOk.j1 (k + 1) l i false = if ageOkAt l i = true then spec_AgesOk.l0 k l ((i + 1 : Nat) : Int) else some false := by
      intro hq
      simp only [spec_AgesOk.j1, hr, hk, Int.toNat_natCast, hK k hk', Option.bind_some]
      rw [if_neg (by decide), if_pos (by omega), if_pos (by omega), if_pos (show (i : Int) ≤ (l.length : Int) by omega)]
      by_cases q3 : (l.getD i z46).f1 = 0
      · rw [if_pos q3, ageOkAt_of l i true (by simp only [true_iff]; exact ⟨hq.1, hq.2, .inl q3⟩)]; simp
      · rw [if_neg q3]
        by_cases q4 : ageIdx (l.take i) (l.getD i z46).f1 0 < 0
        · rw [if_pos q4, ageOkAt_of l i false (by simp only [Bool.false_eq_true, false_iff]; exact fun hh => hh.2.2.elim q3 (fun h' => h' q4))]; simp
        · rw [if_neg q4, ageOkAt_of l i true (by simp only [true_iff]; exact ⟨hq.1, hq.2, .inr q4⟩)]; simp
    have stop : spec_AgesOk.j1 (k + 1) l i true = some false := by simp [spec_AgesOk.j1]
    show spec_AgesOk.l0 (k + 1 + 1) l i = _
    rw [spec_AgesOk.l0]
    simp only [hr, spec_l1In_f, Option.bind_some]
    rw [if_pos (by omega), if_pos (by omega)]
    by_cases q0 : 1 ≤ (l.getD i z46).f0 ∧ (l.getD i z46).f0 ≤ 60
    · rw [decide_eq_true q0, if_pos rfl]
      by_cases q1 : (i : Int) > 0
      · rw [if_pos q1, rdAge_prev l i q1 (by omega), w64 (x := (i : Int) - 1) (by omega) (by omega), if_pos (by omega), if_pos (by omega)]
        by_cases q2 : (l.getD (i - 1) z46).f0 ≥ (l.getD i z46).f0
        · rw [decide_eq_true q2, stop, ageOkAt_of l i false (by simp only [Bool.false_eq_true, false_iff]; exact fun hh => hh.2.1 ⟨q1, q2⟩)]; simp
        · rw [decide_eq_false q2]; exact tail ⟨q0, fun hh => q2 hh.2⟩
      · rw [if_neg q1]; exact tail ⟨q0, fun hh => q1 hh.1⟩
    · rw [decide_eq_false q0, if_neg (by decide), stop, ageOkAt_of l i false (by simp only [Bool.false_eq_true, false_iff]; exact fun hh => q0 hh.1)]; simp
  · refine ⟨0, 1, fun k _ => ?_⟩
    simp only [spec_AgesOk.l0]
    rw [if_neg (by omega)]

def insAge (id frm : Int) : List S46 → List S46
  | [] => [⟨id, frm⟩]
  | x :: xs => if x.f0 > id then ⟨id, frm⟩ :: x :: xs else x :: insAge id frm xs
theorem insAge_length (id frm : Int) : ∀ l : List S46, (insAge id frm l).length = l.length + 1
  | [] => rfl
  | x :: xs => by
    unfold insAge
    by_cases h : x.f0 > id
    · rw [if_pos h]; rfl
    · rw [if_neg h, List.length_cons, insAge_length id frm xs]; rfl
def newAgeFin (l : List S46) (id : Int) (out : List S46) : List S46 × Bool := if 0 ≤ ageIdx l id 0 then (l, false) else if agesOkB out = true then (out, true) else (l, false)
def newAge (l : List S46) (id frm : Int) : List S46 × Bool := newAgeFin l id (insAge id frm l)
theorem newAgeFin_length (l : List S46) (id : Int) (out : List S46) : (newAgeFin l id out).1.length ≤ max l.length out.length := by
  unfold newAgeFin
  split
  · exact Nat.le_max_left ..
  · split
    · exact Nat.le_max_right ..
    · exact Nat.le_max_left ..
theorem newAge_ok (l : List S46) (id frm : Int) (h : agesOkB l = true) : agesOkB (newAge l id frm).1 = true := by
  unfold newAge newAgeFin
  split
  · exact h
  · split
    · assumption
    · exact h

theorem newAge_j1 (l out : List S46) (id : Int) (ho : okAgeS l) (hout : okAgeS out) : Ev (fun k => spec_NewAge.j1 k l id out) (newAgeFin l id out) := by
  have hl : l.length ≤ 4194304 := ho
  obtain ⟨K1, h1⟩ := spec_AgeAt_ev l id ho
  obtain ⟨K2, h2⟩ := spec_AgesOk_ev out hout
  refine evSucc ⟨K1 + K2, 1, fun k hk => ?_⟩
  simp only [spec_NewAge.j1, h1 k (by omega), h2 k (by omega), Option.bind_some, newAgeFin, List.length_nil, List.nil_append]
  by_cases q : ageIdx l id 0 ≥ 0
  · rw [if_pos q, if_pos (show 0 ≤ ageIdx l id 0 from q), if_pos (show 0 + l.length < 8796093022208 by omega)]
  · rw [if_neg q, if_neg (show ¬ 0 ≤ ageIdx l id 0 by omega)]
    by_cases q2 : agesOkB out = true
    · rw [if_pos q2, if_pos q2]
    · rw [if_neg q2, if_neg q2, if_pos (show 0 + l.length < 8796093022208 by omega)]
theorem newAge_go (l : List S46) (id frm : Int) (h : l.length ≤ 1048576) (b : Bool) : Ev (fun k => spec_NewAge.l0 k l id frm [] b 0) (newAgeFin l id (if b = true then l else insAge id frm l)) := by
  have ho : okAgeS l := by unfold okAgeS; omega
  obtain ⟨K, hk⟩ := evRange0 (σ := List S46 × Bool) l.length (fun k s i => spec_NewAge.l0 k l id frm s.1 s.2 i) (fun i s => s.1.length ≤ 2 * i) (fun i s => newAgeFin l id (s.1 ++ if s.2 = true then l.drop i else insAge id frm (l.drop i))) ([], b) (by simp)
    (by
      intro i s hi hs
      obtain ⟨out, d⟩ := s
      have hs : out.length ≤ 2 * i := hs
      have hd := drop_getD l i z46 hi
      have hr : rd_T46 l (i : Int) = l.getD i z46 := by simp [rd_T46]
      generalize l.getD i z46 = y at *
      cases d with
      | true =>
        refine .inl ⟨(out ++ [y], true), by simp; omega, ?_, 0, 1, fun k _ => ?_⟩
        · simp only [if_true]; rw [hd, List.append_assoc]; rfl
        · simp only [spec_NewAge.l0, hr, if_true]
          rw [if_pos (by omega), if_pos (by omega), if_pos (by omega), w64s i (by omega)]
      | false =>
        by_cases q : y.f0 > id
        · refine .inl ⟨(out ++ [⟨id, frm⟩] ++ [y], true), by simp; omega, ?_, 0, 1, fun k _ => ?_⟩
          · simp only [if_true, Bool.false_eq_true, if_false]; rw [hd, insAge, if_pos q, List.append_assoc, List.append_assoc]; rfl
          · simp only [spec_NewAge.l0, hr, Bool.false_eq_true, if_false, Option.bind_some]
            rw [if_pos (by omega), if_pos (by omega), if_pos q, if_pos (by omega), if_pos (by simp; omega), w64s i (by omega)]
        · refine .inl ⟨(out ++ [y], false), by simp; omega, ?_, 0, 1, fun k _ => ?_⟩
          · simp only [Bool.false_eq_true, if_false]; rw [hd, insAge, if_neg q, List.append_assoc]; rfl
          · simp only [spec_NewAge.l0, hr, Bool.false_eq_true, if_false]
            rw [if_pos (by omega), if_pos (by omega), if_neg q, if_pos (by omega), w64s i (by omega)])
    (by
      intro s hs
      obtain ⟨out, d⟩ := s
      have hs : out.length ≤ 2 * l.length := hs
      cases d with
      | true =>
        obtain ⟨K, hK⟩ := newAge_j1 l out id ho (by unfold okAgeS; omega)
        refine ⟨K, 1, fun k hk => ?_⟩
        simp only [spec_NewAge.l0, if_true, hK k hk]
        rw [if_neg (by omega), List.drop_length, List.append_nil]
      | false =>
        obtain ⟨K, hK⟩ := newAge_j1 l (out ++ [⟨id, frm⟩]) id ho (by unfold okAgeS; simp; omega)
        refine ⟨K, 1, fun k hk => ?_⟩
        simp only [spec_NewAge.l0, Bool.false_eq_true, if_false, hK k hk]
        rw [if_neg (by omega), if_pos (by omega), List.drop_length]
        rfl)
  refine ⟨K, fun k hk' => ?_⟩
  have := hk k hk'
  simpa using this
theorem spec_NewAge_ev (l : List S46) (id frm : Int) (h : l.length ≤ 1048576) : Ev (fun k => spec_NewAge.f k l id frm) (newAge l id frm) := by
  have ho : okAgeS l := by unfold okAgeS; omega
  obtain ⟨K1, h1⟩ := spec_AgeAt_ev l id ho
  obtain ⟨K2, h2⟩ := newAge_go l id frm h (decide (ageIdx l id 0 ≥ 0))
  refine ⟨K1 + K2, fun k hk => ?_⟩
  have h2 := h2 k (by omega)
  simp only [spec_NewAge.f, h1 k (by omega), Option.bind_some, newAge]
  rw [show newAgeFin l id (insAge id frm l) = newAgeFin l id (if decide (ageIdx l id 0 ≥ 0) = true then l else insAge id frm l) from ?_]
  · exact h2
  · by_cases q : ageIdx l id 0 ≥ 0
    · unfold newAgeFin; rw [if_pos q, if_pos q]
    · rw [decide_eq_false q, if_neg (by decide)]

theorem impl_within_f (a b c : Int) : impl_within.f a b c = some (decide (b ≤ a ∧ a ≤ c)) := by
  unfold impl_within.f
  by_cases h : a ≥ b
  · rw [if_pos h]; congr 1; rw [Bool.eq_iff_iff]; simp; omega
  · rw [if_neg h]; congr 1; rw [Bool.eq_iff_iff]; simp; omega

theorem impl_AgesOk_ev (l : List S46) (h : okAgeS l) : Ev (fun k => impl_AgesOk.f k l) (agesOkB l) := by
  have h : l.length ≤ 4194304 := h
  refine evAll l.length (fun k i => impl_AgesOk.l0 k l l (l.length : Int) i) (ageOkAt l) (decide ((l.length : Int) ≤ 16)) ?_ ?_ 0 (Nat.zero_le _)
  · intro i hi
    have hr : rd_T46 l (i : Int) = l.getD i z46 := by simp [rd_T46]
    refine ⟨0, 1, fun k _ => ?_⟩
    have hk := w64s i (by omega)
    have tail : ((1 ≤ (l.getD i z46).f0 ∧ (l.getD i z46).f0 ≤ 60) ∧ ¬ ((i : Int) > 0 ∧ (l.getD (i - 1) z46).f0 ≥ (l.getD i z46).f0)) →
        (if (l.getD i z46).f1 = 0 then impl_AgesOk.l0 k l l (l.length : Int) (wrap64 ((i : Int) + 1)) else if (i : Int) ≤ (l.length : Int) then (impl_AgeAt.f (l.take (i : Int).toNat) (l.getD i z46).f1).bind fun t => if t < 0 then some false else impl_AgesOk.l0 k l l (l.length : Int) (wrap64 ((i : Int) + 1)) else none) = if ageOkAt l i = true then impl_AgesOk.l0 k l l (l.length : Int) ((i + 1 : Nat) : Int) else some false := by
      intro hq
      rw [hk, if_pos (show (i : Int) ≤ (l.length : Int) by omega), Int.toNat_natCast]
      simp only [impl_AgeAt.f, Option.bind_some]
      by_cases q3 : (l.getD i z46).f1 = 0
      · rw [if_pos q3, ageOkAt_of l i true (by simp only [true_iff]; exact ⟨hq.1, hq.2, .inl q3⟩)]; simp
      · rw [if_neg q3]
        by_cases q4 : ageIdx (l.take i) (l.getD i z46).f1 0 < 0
        · rw [if_pos q4, ageOkAt_of l i false (by simp only [Bool.false_eq_true, false_iff]; exact fun hh => hh.2.2.elim q3 (fun h' => h' q4))]; simp
        · rw [if_neg q4, ageOkAt_of l i true (by simp only [true_iff]; exact ⟨hq.1, hq.2, .inr q4⟩)]; simp
    simp only [impl_AgesOk.l0, hr, impl_within_f, Option.bind_some]
    rw [if_pos (by omega), if_pos (by omega), if_pos (by omega)]
    by_cases q0 : 1 ≤ (l.getD i z46).f0 ∧ (l.getD i z46).f0 ≤ 60
    · rw [decide_eq_true q0, if_pos rfl]
      by_cases q1 : (i : Int) > 0
      · rw [if_pos q1, rdAge_prev l i q1 (by omega), w64 (x := (i : Int) - 1) (by omega) (by omega), if_pos (by omega), if_pos (by omega)]
        by_cases q2 : (l.getD (i - 1) z46).f0 ≥ (l.getD i z46).f0
        · rw [if_pos q2, ageOkAt_of l i false (by simp only [Bool.false_eq_true, false_iff]; exact fun hh => hh.2.1 ⟨q1, q2⟩)]; simp
        · rw [if_neg q2]; exact tail ⟨q0, fun hh => q2 hh.2⟩
      · rw [if_neg q1]; exact tail ⟨q0, fun hh => q1 hh.1⟩
    · rw [decide_eq_false q0, if_neg (by decide), ageOkAt_of l i false (by simp only [Bool.false_eq_true, false_iff]; exact fun hh => q0 hh.1)]; simp
  · refine ⟨0, 1, fun k _ => ?_⟩
    simp only [impl_AgesOk.l0]
    rw [if_neg (by omega)]

theorem newAge_len (l : List S46) (id frm : Int) (h : okAgeS l) (h2 : l.length ≤ 1048576) : okAgeS (newAge l id frm).1 := by
  have h1 := newAgeFin_length l id (insAge id frm l)
  rw [insAge_length] at h1
  unfold newAge okAgeS
  omega
theorem impl_NewAge_j1 (l : List S46) (id frm : Int) (h : l.length ≤ 1048576) (i : Nat) (hi : i ≤ l.length) (he : l.take i ++ [⟨id, frm⟩] ++ l.drop i = insAge id frm l) : Ev (fun k => impl_NewAge.j1 k l id frm (i : Int)) (newAge l id frm) := by
  have hcp : impl_copyAges.f l = some l := by
    simp only [impl_copyAges.f, Option.bind_some, List.length_nil, List.nil_append]
    rw [if_pos (by omega)]
  have hins : impl_Age_58.f l (i : Int) [⟨id, frm⟩] = some (insAge id frm l) := by
    unfold impl_Age_58.f
    rw [if_pos (by omega), if_pos (by omega), if_pos (by rfl), if_pos (by omega), Int.toNat_natCast, he]
  obtain ⟨K, hk⟩ := impl_AgesOk_ev (insAge id frm l) (by unfold okAgeS; rw [insAge_length]; omega)
  refine ⟨K + 1, fun k hk' => ?_⟩
  have a := hk (k - 1) (by omega)
  simp only at a
  obtain ⟨k, rfl⟩ : ∃ m, k = m + 1 := ⟨k - 1, by omega⟩
  rw [Nat.add_sub_cancel] at a
  simp only [impl_NewAge.j1, hcp, hins, impl_AgeAt.f, a, Option.bind_some, newAge, newAgeFin]
  by_cases q : ageIdx l id 0 ≥ 0
  · rw [if_pos q, if_pos q]
  · have q' : ¬ 0 ≤ ageIdx l id 0 := q
    rw [if_neg q, if_neg q']
    by_cases q2 : agesOkB (insAge id frm l) = true
    · rw [if_pos q2, if_pos q2]
    · rw [if_neg q2, if_neg q2]
theorem impl_NewAge_ev (l : List S46) (id frm : Int) (h : l.length ≤ 1048576) : Ev (fun k => impl_NewAge.f k l id frm) (newAge l id frm) := by
  obtain ⟨K, hk⟩ := evRange0 (σ := Unit) l.length (fun k _ i => impl_NewAge.l0 k l id frm i) (fun i _ => l.take i ++ insAge id frm (l.drop i) = insAge id frm l) (fun _ _ => newAge l id frm) () (by simp)
    (by
      intro i _ hi hs
      have hd := drop_getD l i z46 hi
      have ht := take_getD l i z46 hi
      have hr : rd_T46 l (i : Int) = l.getD i z46 := by simp [rd_T46]
      generalize l.getD i z46 = y at *
      rw [hd] at hs
      by_cases q : y.f0 ≤ id
      · refine .inl ⟨(), ?_, rfl, 0, 1, fun k _ => ?_⟩
        · rw [ht, List.append_assoc, ← hs, insAge, if_neg (by omega)]
          rfl
        · simp only [impl_NewAge.l0, hr]
          rw [if_pos (by omega), if_pos (by omega), if_pos q, w64s i (by omega)]
      · rw [insAge, if_pos (by omega), ← hd] at hs
        obtain ⟨K, hK⟩ := impl_NewAge_j1 l id frm h i (by omega) (by rw [← hs, List.append_assoc]; rfl)
        refine .inr ⟨K, 1, fun k hk => ?_⟩
        have := hK k hk
        simp only at this
        simp only [impl_NewAge.l0, hr]
        rw [if_pos (by omega), if_pos (by omega), if_neg q, this])
    (by
      intro _ hs
      rw [List.take_length, List.drop_length, insAge] at hs
      obtain ⟨K, hK⟩ := impl_NewAge_j1 l id frm h l.length (Nat.le_refl _) (by rw [List.take_length, List.drop_length, List.append_nil, ← hs])
      refine ⟨K, 1, fun k hk => ?_⟩
      have := hK k hk
      simp only at this
      simp only [impl_NewAge.l0]
      rw [if_neg (by omega), this])
  exact ⟨K, fun k hk' => hk k hk'⟩

theorem FnExactNewAge (l0 : List (S51)) (a1 : Int) (a2 : Int) (h0 : (l0.length ≤ 9223372036854775807 ∧ ∀ y0 ∈ l0, ((Lit.int .i64 y0.f0).wf = true ∧ (Lit.int .i64 y0.f1).wf = true))) (h1 : (Lit.int .i64 a1).wf = true) (h2 : (Lit.int .i64 a2).wf = true) : ∃ k, laws_FnExactNewAge.f k l0 a1 a2 = some true := by
  apply Ev.rounds
  unfold laws_FnExactNewAge.f
  have u0_0 := sumAgeS_nn l0
  by_cases c0 : 1048576 < sumAgeS l0
  · refine Ev.bind (szAgeS_big l0 _ h0.1 (by omega) (by omega) c0) ?_
    simp only [if_pos (show (-1 : Int) < 0 by decide)]; exact Ev.now _
  refine Ev.bind (szAgeS_fit l0 _ h0.1 (by omega) (by omega) c0) ?_
  simp only [if_neg (show ¬ (1048576 - sumAgeS l0 : Int) < 0 by omega)]
  have i0 : inAgeS l0 := in_of_sumAgeS (by omega)
  have o0 : okAgeS (l0.map toA) := ok_of_inAgeS i0
  have q0 := cntAgeS_nn o0
  have oR : okAgeS ((newAge (l0.map toA) a1 a2).1) := (newAge_len _ _ _ o0 (by rw [List.length_map]; unfold inAgeS at i0; omega))
  have qR := cntAgeS_nn oR
  repeat' (first
    | exact Ev.now _
    | (refine Ev.bind (toAgeS_ev _ (by assumption)) ?_)
    | (refine Ev.bind (eqAgeS_ev _ (by assumption)) ?_)
    | (refine Ev.bind (markAgeS_ev _ _ (by assumption) (by omega) (by omega)) ?_)
    | (refine Ev.bind (heldAgeS_ev _ _ (by assumption) (by omega) (by omega)) ?_)
    | (refine Ev.bind (impl_NewAge_ev _ _ _ (by rw [List.length_map]; unfold inAgeS at i0; omega)) ?_)
    | (refine Ev.bind (spec_NewAge_ev _ _ _ (by rw [List.length_map]; unfold inAgeS at i0; omega)) ?_)
    | (simp only [Option.bind_some, ↓reduceIte, bne_self_eq_false, Bool.false_eq_true, Bool.not_true, eq_self, if_neg (show ¬ 1 + cntAgeS (l0.map toA) < 0 by omega), if_neg (show ¬ 1 + cntAgeS ((newAge (l0.map toA) a1 a2).1) < 0 by omega)])
    | (refine Ev.step (fun _ => rfl) ?_; simp only [laws_FnExactNewAge.j0])
    | (refine Ev.step (fun _ => rfl) ?_; simp only [laws_FnExactNewAge.j1])
    | (refine Ev.step (fun _ => rfl) ?_; simp only [laws_FnExactNewAge.j2]))

end Go.Proofs.Ytpncphhbdkomjaa.Pure
