/- Whatever the arguments: the law answers true; said of the plain functions that the print made of the Go text, with no condition but that the arguments are of their kinds. -/
import Derived.Test.YtpncphhbdkomjaaMFnExactPathOfx0
import Derived.Test.YtpncphhbdkomjaaMFnExactPathOfx1
import Derived.Test.YtpncphhbdkomjaaMFnExactPathOfx2
import Derived.Test.YtpncphhbdkomjaaMFnExactPathOfx3
import Derived.Test.YtpncphhbdkomjaaCore
namespace Go.Proofs.Ytpncphhbdkomjaa.Pure
open Go.RowKit Go.Proofs.Ytpncphhbdkomjaa.PFnExactPathOf Go.Proofs.Ytpncphhbdkomjaa.Core Go.Proofs.YtpncphhbdkomjaaW.PrintWords Go.Proofs.YtpncphhbdkomjaaW.PrintLast
set_option linter.unusedSimpArgs false
set_option linter.unusedVariables false

def toA (x : S51) : S46 := ⟨x.f0, x.f1⟩

def okAgeS (l : List S46) : Prop := l.length ≤ 4194304
def cntAgeS (l : List S46) : Int := 2 * l.length
theorem cntAgeS_nn {l : List S46} (h : okAgeS l) : 0 ≤ cntAgeS l ∧ cntAgeS l ≤ 1073741824 := by unfold okAgeS at h; unfold cntAgeS; omega
def inAgeS (l : List S51) : Prop := l.length ≤ 1048576
def sumAgeS (l : List S51) : Int := l.length
theorem sumAgeS_nn (l : List S51) : 0 ≤ sumAgeS l := by unfold sumAgeS; omega
theorem in_of_sumAgeS {l : List S51} (h : sumAgeS l ≤ 1048576) : inAgeS l := by unfold sumAgeS at h; unfold inAgeS; omega
theorem ok_of_inAgeS {l : List S51} (h : inAgeS l) : okAgeS (l.map toA) := by unfold inAgeS at h; unfold okAgeS; rw [List.length_map]; omega

theorem szAgeS_f (l : List S51) (a : Int) (hl : l.length ≤ 9223372036854775807) (h0 : 0 ≤ a) (h1 : a ≤ 1048576) : laws_szAgeS.f l a = some (if a < sumAgeS l then -1 else a - sumAgeS l) := by
  unfold laws_szAgeS.f sumAgeS
  rw [w64 (by omega) (by omega)]
  by_cases h : a < (l.length : Int)
  · rw [if_pos (by omega), if_pos h]
  · rw [if_neg (by omega), if_neg h]
theorem szAgeS_big (l : List S51) (a : Int) (hl : l.length ≤ 9223372036854775807) (h0 : 0 ≤ a) (h1 : a ≤ 1048576) (h : a < sumAgeS l) : Ev (fun _ => laws_szAgeS.f l a) (-1) := evOf fun _ => by rw [szAgeS_f l a hl h0 h1, if_pos h]
theorem szAgeS_fit (l : List S51) (a : Int) (hl : l.length ≤ 9223372036854775807) (h0 : 0 ≤ a) (h1 : a ≤ 1048576) (h : ¬ a < sumAgeS l) : Ev (fun _ => laws_szAgeS.f l a) (a - sumAgeS l) := evOf fun _ => by rw [szAgeS_f l a hl h0 h1, if_neg h]

theorem toAgeS_ev (l : List S51) (hi : inAgeS l) : Ev (fun k => laws_toAgeS.f k l) (l.map toA) := by
  have h : l.length ≤ 1048576 := hi
  have hl : ∀ i, i ≤ l.length → (fill (fun i => toA (l.getD i z51)) (List.replicate l.length z46) i).length = l.length := fun i hi => by rw [fill_length _ _ _ (by simpa using hi)]; simp
  obtain ⟨K, hk⟩ := evRange0 (σ := List S46) l.length (fun k s i => laws_toAgeS.l0 k l s i) (fun i s => s = fill (fun i => toA (l.getD i z51)) (List.replicate l.length z46) i) (fun _ _ => l.map toA) (List.replicate l.length z46) (fill_zero _ _).symm
    (by
      intro i s hi hs
      subst hs
      refine .inl ⟨_, rfl, rfl, 0, 1, fun k _ => ?_⟩
      have h1 := hl i (by omega)
      simp only [laws_toAgeS.l0]
      rw [if_pos (by omega), if_pos (by omega)]
      simp only [laws_toAge.f, Option.bind_some]
      rw [if_pos (by omega), w64s i (by omega), Int.toNat_natCast, fill_set _ _ _ (by simpa using hi)]
      simp [toA, rd_T51])
    (by
      intro s hs
      subst hs
      refine ⟨0, 1, fun k _ => ?_⟩
      simp only [laws_toAgeS.l0]
      rw [if_neg (by omega)]
      have := fill_all (fun i => toA (l.getD i z51)) (List.replicate l.length z46)
      rw [List.length_replicate] at this
      rw [this, range_map])
  refine ⟨K, fun k hk' => ?_⟩
  simp only [laws_toAgeS.f]
  rw [if_pos (by omega), if_pos (by omega)]
  have e := hk k hk'
  simpa using e

theorem eqAge_refl (x : S46) : laws_eqAge.f x.f0 x.f1 x.f0 x.f1 = some true := by simp [laws_eqAge.f]
theorem eqAgeS_ev (l : List S46) (ho : okAgeS l) : Ev (fun k => laws_eqAgeS.f k l l) true := by
  have h : l.length ≤ 4194304 := ho
  obtain ⟨K, hk⟩ := evRange0 (σ := Unit) l.length (fun k _ i => laws_eqAgeS.l0 k l l i) (fun _ _ => True) (fun _ _ => true) () trivial
    (by
      intro i _ hi _
      refine .inl ⟨(), trivial, rfl, 0, 1, fun k _ => ?_⟩
      simp only [laws_eqAgeS.l0]
      rw [if_pos (by omega), if_pos (by omega), if_pos (by omega), eqAge_refl, w64s i (by omega)]
      rfl)
    (by
      intro _ _
      refine ⟨0, 1, fun k _ => ?_⟩
      simp only [laws_eqAgeS.l0]
      rw [if_neg (by omega)])
  refine ⟨K, fun k hk' => ?_⟩
  simp only [laws_eqAgeS.f]
  rw [if_pos trivial]
  exact hk k hk'

def okIntS (l : List Int) : Prop := l.length ≤ 4194304
def cntIntS (l : List Int) : Int := l.length
theorem cntIntS_nn {l : List Int} (h : okIntS l) : 0 ≤ cntIntS l ∧ cntIntS l ≤ 1073741824 := by unfold okIntS at h; unfold cntIntS; omega
def inIntS (l : List Int) : Prop := l.length ≤ 1048576
theorem ok_of_inIntS {l : List Int} (h : inIntS l) : okIntS l := by unfold inIntS at h; unfold okIntS; omega
def sumIntS (l : List Int) : Int := l.length
theorem sumIntS_nn (l : List Int) : 0 ≤ sumIntS l := by unfold sumIntS; omega
theorem in_of_sumIntS {l : List Int} (h : sumIntS l ≤ 1048576) : inIntS l := by unfold sumIntS at h; unfold inIntS; omega

theorem eqIntS_ev (l : List Int) (ho : okIntS l) : Ev (fun k => laws_eqIntS.f k l l) true := by
  have h : l.length ≤ 4194304 := ho
  obtain ⟨K, hk⟩ := evRange0 (σ := Unit) l.length (fun k _ i => laws_eqIntS.l0 k l l i) (fun _ _ => True) (fun _ _ => true) () trivial
    (by
      intro i _ hi _
      refine .inl ⟨(), trivial, rfl, 0, 1, fun k _ => ?_⟩
      simp only [laws_eqIntS.l0]
      rw [if_pos (by omega), if_pos (by omega), if_pos (by omega), if_pos trivial, w64s i (by omega)])
    (by
      intro _ _
      refine ⟨0, 1, fun k _ => ?_⟩
      simp only [laws_eqIntS.l0]
      rw [if_neg (by omega)])
  refine ⟨K, fun k hk' => ?_⟩
  simp only [laws_eqIntS.f]
  rw [if_pos trivial]
  exact hk k hk'

def mkA (a : Int) (i : Nat) : S46 := ⟨a + 2 * i, a + 2 * i + 1⟩
def mkAgeS (l : List S46) (a : Int) : List S46 := (List.range l.length).map (mkA a)
theorem mkAgeS_length (l : List S46) (a : Int) : (mkAgeS l a).length = l.length := by simp [mkAgeS]
theorem markAgeS_ev (l : List S46) (a : Int) (ho : okAgeS l) (h0 : 0 ≤ a) (h1 : a ≤ 1099511627776) : Ev (fun k => laws_markAgeS.f k l a) (a + cntAgeS l, mkAgeS l a) := by
  have h : l.length ≤ 4194304 := ho
  obtain ⟨K, hk⟩ := evRange0 (σ := List S46 × Int) l.length (fun k s i => laws_markAgeS.l0 k s.1 s.2 i) (fun i s => s = (fill (mkA a) l i, a + 2 * i)) (fun _ _ => (a + cntAgeS l, mkAgeS l a)) (l, a) (by simp [fill_zero])
    (by
      intro i s hi hs
      subst hs
      refine .inl ⟨_, rfl, rfl, 0, 1, fun k _ => ?_⟩
      have hl := fill_length (mkA a) l i (by omega)
      simp only [laws_markAgeS.l0]
      rw [if_pos (by omega), if_pos (by omega)]
      simp only [Option.bind_some]
      rw [w64 (x := a + 2 * (i : Int) + 1) (by omega) (by omega), w64 (x := a + 2 * (i : Int) + 1 + 1) (by omega) (by omega), w64s i (by omega), Int.toNat_natCast]
      have hr : ∀ (m : List S46) (v : S46), i < m.length → rd_T46 (m.set i v) (i : Int) = v := fun m v hm => by simp [rd_T46, hm]
      rw [hr _ _ (by omega)]
      simp only [List.set_set]
      rw [fill_set (mkA a) l i hi (show (⟨a + 2 * (i : Int), a + 2 * (i : Int) + 1⟩ : S46) = mkA a i from rfl)]
      congr 1
      push_cast
      omega)
    (by
      intro s hs
      subst hs
      refine ⟨0, 1, fun k _ => ?_⟩
      have hl := fill_length (mkA a) l l.length (by omega)
      simp only [laws_markAgeS.l0]
      rw [if_neg (by omega), fill_all]
      rfl)
  exact ⟨K, fun k hk' => hk k hk'⟩

def mkIntS (l : List Int) (a : Int) : List Int := (List.range l.length).map fun (i : Nat) => a + (i : Int)
theorem mkIntS_length (l : List Int) (a : Int) : (mkIntS l a).length = l.length := by simp [mkIntS]
theorem markIntS_ev (l : List Int) (a : Int) (ho : okIntS l) (h0 : 0 ≤ a) (h1 : a ≤ 1099511627776) : Ev (fun k => laws_markIntS.f k l a) (a + cntIntS l, mkIntS l a) := by
  have h : l.length ≤ 4194304 := ho
  obtain ⟨K, hk⟩ := evRange0 (σ := List Int × Int) l.length (fun k s i => laws_markIntS.l0 k s.1 s.2 i) (fun i s => s = (fill (fun i => a + (i : Int)) l i, a + i)) (fun _ _ => (a + cntIntS l, mkIntS l a)) (l, a) (by simp [fill_zero])
    (by
      intro i s hi hs
      subst hs
      refine .inl ⟨_, rfl, rfl, 0, 1, fun k _ => ?_⟩
      have hl := fill_length (fun i => a + (i : Int)) l i (by omega)
      simp only [laws_markIntS.l0]
      rw [if_pos (by omega), if_pos (by omega), w64 (x := a + (i : Int) + 1) (by omega) (by omega), w64s i (by omega), Int.toNat_natCast, fill_set _ l i hi rfl]
      congr 1
      push_cast
      omega)
    (by
      intro s hs
      subst hs
      refine ⟨0, 1, fun k _ => ?_⟩
      have hl := fill_length (fun i => a + (i : Int)) l l.length (by omega)
      simp only [laws_markIntS.l0]
      rw [if_neg (by omega), fill_all]
      rfl)
  exact ⟨K, fun k hk' => hk k hk'⟩

theorem heldIntS_ev (l : List Int) (a : Int) (ho : okIntS l) (h0 : 0 ≤ a) (h1 : a ≤ 1099511627776) : Ev (fun k => laws_heldIntS.f k (mkIntS l a) a) (a + cntIntS l) := by
  have h : l.length ≤ 4194304 := ho
  have hl := mkIntS_length l a
  obtain ⟨K, hk⟩ := evRange0 (σ := Int) l.length (fun k s i => laws_heldIntS.l0 k (mkIntS l a) s i) (fun i s => s = a + i) (fun _ _ => a + cntIntS l) a (by simp)
    (by
      intro i s hi hs
      subst hs
      refine .inl ⟨_, rfl, rfl, 0, 1, fun k _ => ?_⟩
      have hr : rd (mkIntS l a) (i : Int) = a + (i : Int) := by
        unfold mkIntS
        rw [rd_nat, range_getD _ _ _ _ hi]
      simp only [laws_heldIntS.l0]
      rw [if_pos (by omega), if_pos (by omega), if_pos hr, w64 (x := a + (i : Int) + 1) (by omega) (by omega), w64s i (by omega)]
      congr 1
      push_cast
      omega)
    (by
      intro s hs
      subst hs
      refine ⟨0, 1, fun k _ => ?_⟩
      simp only [laws_heldIntS.l0]
      rw [if_neg (by omega)]
      rfl)
  exact ⟨K, fun k hk' => hk k hk'⟩

theorem ageIdx_cases (l : List S46) (a : Int) (j : Nat) : ageIdx l a j = -1 ∨ ∃ i, i < l.length ∧ ageIdx l a j = ((j + i : Nat) : Int) ∧ (l.getD i z46).f0 = a := by
  induction l generalizing j with
  | nil => exact .inl rfl
  | cons x xs ih =>
    unfold ageIdx
    by_cases h : x.f0 = a
    · rw [if_pos h]; exact .inr ⟨0, by simp, by simp, by simpa using h⟩
    · rw [if_neg h]
      rcases ih (j + 1) with e | ⟨i, hi, e, hx⟩
      · exact .inl e
      · exact .inr ⟨i + 1, by simpa using hi, by rw [e]; congr 1; omega, by simpa using hx⟩
theorem impl_AgeAt_ev (l : List S46) (a : Int) (h : okAgeS l) : Ev (fun _ => impl_AgeAt.f l a) (ageIdx l a 0) := evOf fun _ => rfl

theorem spec_AgeAt_ev (l : List S46) (a : Int) (h : okAgeS l) : Ev (fun k => spec_AgeAt.f k l a) (ageIdx l a 0) := by
  have h : l.length ≤ 4194304 := h
  obtain ⟨K, hk⟩ := evRange0 (σ := Unit) l.length (fun k _ i => spec_AgeAt.l0 k l a i) (fun _ _ => True) (fun i _ => ageIdx (l.drop i) a i) () trivial
    (by
      intro i _ hi _
      have hat := ageIdx_at l a i i hi
      have hr : rd_T46 l (i : Int) = l.getD i z46 := by simp [rd_T46]
      generalize l.getD i z46 = y at *
      by_cases h1 : y.f0 = a
      · refine .inr ⟨0, 1, fun k _ => ?_⟩
        simp only [spec_AgeAt.l0, hr]
        rw [if_pos (by omega), if_pos (by omega), if_pos h1, hat, if_pos h1]
      · refine .inl ⟨(), trivial, ?_, 0, 1, fun k _ => ?_⟩
        · rw [hat, if_neg h1]
        · simp only [spec_AgeAt.l0, hr]
          rw [if_pos (by omega), if_pos (by omega), if_neg h1, w64s i (by omega)])
    (by
      intro _ _
      refine ⟨0, 1, fun k _ => ?_⟩
      simp only [spec_AgeAt.l0]
      rw [if_neg (by omega), List.drop_length]
      rfl)
  exact ⟨K, fun k hk' => hk k hk'⟩

def pathOf (l : List S46) : Nat → Int → List Int
  | 0, _ => []
  | n + 1, a => if ageIdx l a 0 < 0 then [] else a :: pathOf l n (l.getD (ageIdx l a 0).toNat z46).f1
theorem pathOf_length (l : List S46) : ∀ n a, (pathOf l n a).length ≤ n
  | 0, _ => Nat.le_refl _
  | n + 1, a => by
    unfold pathOf
    by_cases h : ageIdx l a 0 < 0
    · rw [if_pos h]; exact Nat.zero_le _
    · rw [if_neg h, List.length_cons]
      exact Nat.succ_le_succ (pathOf_length l n _)

theorem spec_PathOf_ev (l : List S46) (a : Int) (ho : okAgeS l) : Ev (fun k => spec_PathOf.f k l a) (pathOf l (l.length + 1) a) := by
  have h : l.length ≤ 4194304 := ho
  have loop : ∀ n out id, out.length + n = l.length + 1 → Ev (fun k => spec_PathOf.l0 k l out (ageIdx l id 0)) (out ++ pathOf l n id) := by
    intro n
    induction n with
    | zero =>
      intro out id hn
      refine evSucc ⟨0, 1, fun k _ => ?_⟩
      simp only [spec_PathOf.l0]
      by_cases q : ageIdx l id 0 ≥ 0
      · rw [if_pos q, if_neg (by omega)]; simp [pathOf]
      · rw [if_neg q]; simp [pathOf]
    | succ n ih =>
      intro out id hn
      rcases ageIdx_cases l id 0 with e | ⟨j, hj, e, hx⟩
      · refine evSucc ⟨0, 1, fun k _ => ?_⟩
        simp only [spec_PathOf.l0, pathOf]
        rw [if_neg (by omega), if_pos (by omega), List.append_nil]
      · rw [Nat.zero_add] at e
        have hr : rd_T46 l (j : Int) = l.getD j z46 := by simp [rd_T46]
        obtain ⟨K1, h1⟩ := spec_AgeAt_ev l (l.getD j z46).f1 ho
        obtain ⟨K2, h2⟩ := ih (out ++ [id]) (l.getD j z46).f1 (by simp; omega)
        refine evSucc ⟨K1 + K2, 1, fun k hk => ?_⟩
        have h2 := h2 k (by omega)
        simp only [spec_PathOf.l0, e, hr, hx, h1 k (by omega), Option.bind_some, pathOf]
        rw [if_pos (by omega), if_pos (by omega), if_pos (by omega), if_pos (by omega), if_pos (by omega), if_neg (by omega), Int.toNat_natCast]
        simpa using h2
  obtain ⟨K1, h1⟩ := spec_AgeAt_ev l a ho
  obtain ⟨K2, h2⟩ := loop (l.length + 1) [] a (by simp)
  refine ⟨K1 + K2, fun k hk => ?_⟩
  have h2 := h2 k (by omega)
  simp only [spec_PathOf.f, h1 k (by omega), Option.bind_some]
  simpa using h2

theorem impl_PathOf_ev (l : List S46) (a : Int) (h : okAgeS l) : Ev (fun k => impl_PathOf.f k l a) (pathOf l (l.length + 1) a) := by
  have h : l.length ≤ 4194304 := h
  obtain ⟨K, hk⟩ := evRange0 (σ := Int × List Int) (l.length + 1) (fun k s i => impl_PathOf.l0 k l s.1 s.2 ((l.length + 1 : Nat) : Int) i) (fun i s => s.2.length ≤ i) (fun i s => s.2 ++ pathOf l (l.length + 1 - i) s.1) (a, []) (by simp)
    (by
      intro i s hi hs
      obtain ⟨id, out⟩ := s
      have hs : out.length ≤ i := hs
      rw [show l.length + 1 - i = (l.length + 1 - (i + 1)) + 1 by omega]
      rcases ageIdx_cases l id 0 with e | ⟨j, hj, e, hx⟩
      · refine .inr ⟨0, 1, fun k _ => ?_⟩
        simp only [impl_PathOf.l0, impl_AgeAt.f, Option.bind_some, pathOf]
        rw [if_pos (by omega), if_pos (by omega), if_pos (by omega), List.append_nil]
      · rw [Nat.zero_add] at e
        have hr : rd_T46 l (j : Int) = l.getD j z46 := by simp [rd_T46]
        refine .inl ⟨((l.getD j z46).f1, out ++ [id]), by simp; omega, ?_, 0, 1, fun k _ => ?_⟩
        · simp only [pathOf]
          rw [if_neg (by omega), e, Int.toNat_natCast, List.append_assoc]; rfl
        · simp only [impl_PathOf.l0, impl_AgeAt.f, Option.bind_some, e, hr]
          rw [if_pos (by omega), if_neg (by omega), if_pos (by omega), if_pos (by omega), if_pos (by omega), w64s i (by omega)])
    (by
      intro s _
      refine ⟨0, 1, fun k _ => ?_⟩
      simp only [impl_PathOf.l0]
      rw [if_neg (by omega), Nat.sub_self]
      simp [pathOf])
  refine ⟨K, fun k hk' => ?_⟩
  have := hk k hk'
  simp only [impl_PathOf.f]
  rw [w64s l.length (by omega)]
  simpa using this

theorem FnExactPathOf (l0 : List (S51)) (a1 : Int) (h0 : (l0.length ≤ 9223372036854775807 ∧ ∀ y0 ∈ l0, ((Lit.int .i64 y0.f0).wf = true ∧ (Lit.int .i64 y0.f1).wf = true))) (h1 : (Lit.int .i64 a1).wf = true) : ∃ k, laws_FnExactPathOf.f k l0 a1 = some true := by
  apply Ev.rounds
  unfold laws_FnExactPathOf.f
  have u0_0 := sumAgeS_nn l0
  by_cases c0 : 1048576 < sumAgeS l0
  · refine Ev.bind (szAgeS_big l0 _ h0.1 (by omega) (by omega) c0) ?_
    simp only [if_pos (show (-1 : Int) < 0 by decide)]; exact Ev.now _
  refine Ev.bind (szAgeS_fit l0 _ h0.1 (by omega) (by omega) c0) ?_
  simp only [if_neg (show ¬ (1048576 - sumAgeS l0 : Int) < 0 by omega)]
  have i0 : inAgeS l0 := in_of_sumAgeS (by omega)
  have o0 : okAgeS (l0.map toA) := ok_of_inAgeS i0
  have q0 := cntAgeS_nn o0
  have oR : okIntS (pathOf (l0.map toA) ((l0.map toA).length + 1) a1) := (by have h := pathOf_length (l0.map toA) ((l0.map toA).length + 1) a1; simp only [List.length_map] at h; unfold okIntS; unfold sumAgeS at *; simp only [List.length_map]; omega)
  have qR := cntIntS_nn oR
  repeat' (first
    | exact Ev.now _
    | (refine Ev.bind (toAgeS_ev _ (by assumption)) ?_)
    | (refine Ev.bind (eqAgeS_ev _ (by assumption)) ?_)
    | (refine Ev.bind (markAgeS_ev _ _ (by assumption) (by omega) (by omega)) ?_)
    | (refine Ev.bind (heldAgeS_ev _ _ (by assumption) (by omega) (by omega)) ?_)
    | (refine Ev.bind (toIntS_ev _ (by assumption)) ?_)
    | (refine Ev.bind (eqIntS_ev _ (by assumption)) ?_)
    | (refine Ev.bind (markIntS_ev _ _ (by assumption) (by omega) (by omega)) ?_)
    | (refine Ev.bind (heldIntS_ev _ _ (by assumption) (by omega) (by omega)) ?_)
    | (refine Ev.bind (impl_PathOf_ev _ _ o0) ?_)
    | (refine Ev.bind (spec_PathOf_ev _ _ o0) ?_)
    | (simp only [Option.bind_some, ↓reduceIte, bne_self_eq_false, Bool.false_eq_true, Bool.not_true, eq_self, if_neg (show ¬ 1 + cntAgeS (l0.map toA) < 0 by omega), if_neg (show ¬ 1 + cntIntS (pathOf (l0.map toA) ((l0.map toA).length + 1) a1) < 0 by omega)])
    | (refine Ev.step (fun _ => rfl) ?_; simp only [laws_FnExactPathOf.j0]))

end Go.Proofs.Ytpncphhbdkomjaa.Pure
