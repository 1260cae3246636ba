/- Whatever the arguments: the law answers true; said of the plain functions that the print made of the Go text, with no condition but that the arguments are of their kinds. -/
import Derived.Test.YtbbendmghdccpaaMFnExactGetTextx0
import Derived.Test.YtbbendmghdccpaaMFnExactGetTextx1
import Derived.Test.YtbbendmghdccpaaCore
namespace Go.Proofs.Ytbbendmghdccpaa.Pure
open Go.RowKit Go.Proofs.Ytbbendmghdccpaa.PFnExactGetText Go.Proofs.Ytbbendmghdccpaa.Core Go.Proofs.YtbbendmghdccpaaW.PrintWords Go.Proofs.YtbbendmghdccpaaW.PrintLast
set_option linter.unusedSimpArgs false
set_option linter.unusedVariables false

def okByteS (l : List Int) : Prop := l.length ≤ 4194304
def cntByteS (l : List Int) : Int := l.length
theorem cntByteS_nn {l : List Int} (h : okByteS l) : 0 ≤ cntByteS l ∧ cntByteS l ≤ 1073741824 := by unfold okByteS at h; unfold cntByteS; omega
def inByteS (l : List Int) : Prop := l.length ≤ 1048576
theorem ok_of_inByteS {l : List Int} (h : inByteS l) : okByteS l := by unfold inByteS at h; unfold okByteS; omega
def sumByteS (l : List Int) : Int := l.length
theorem sumByteS_nn (l : List Int) : 0 ≤ sumByteS l := by unfold sumByteS; omega
theorem in_of_sumByteS {l : List Int} (h : sumByteS l ≤ 1048576) : inByteS l := by unfold sumByteS at h; unfold inByteS; omega

theorem toByteS_ev (l : List Int) (hi : inByteS l) : Ev (fun k => laws_toByteS.f k l) l := by
  have h : l.length ≤ 1048576 := hi
  have hl : ∀ i, i ≤ l.length → (fill (fun i => l.getD i 0) (List.replicate l.length (0 : Int)) i).length = l.length := fun i hi => by rw [fill_length _ _ _ (by simpa using hi)]; simp
  obtain ⟨K, hk⟩ := evRange0 (σ := List Int) l.length (fun k s i => laws_toByteS.l0 k l s i) (fun i s => s = fill (fun i => l.getD i 0) (List.replicate l.length (0 : Int)) i) (fun _ _ => l) (List.replicate l.length (0 : Int)) (fill_zero _ _).symm
    (by
      intro i s hi hs
      subst hs
      refine .inl ⟨_, rfl, rfl, 0, 1, fun k _ => ?_⟩
      have h1 := hl i (by omega)
      simp only [laws_toByteS.l0]
      rw [if_pos (by omega), if_pos (by omega), if_pos (by omega), w64s i (by omega), Int.toNat_natCast, fill_set _ _ _ (by simpa using hi) (rd_nat l i)])
    (by
      intro s hs
      subst hs
      refine ⟨0, 1, fun k _ => ?_⟩
      simp only [laws_toByteS.l0]
      rw [if_neg (by omega)]
      have := fill_all (fun i => l.getD i 0) (List.replicate l.length (0 : Int))
      rw [List.length_replicate] at this
      rw [this, range_id])
  refine ⟨K, fun k hk' => ?_⟩
  simp only [laws_toByteS.f]
  rw [if_pos (by omega), if_pos (by omega)]
  have e := hk k hk'
  simpa using e

theorem eqByteS_ev (l : List Int) (ho : okByteS l) : Ev (fun k => laws_eqByteS.f k l l) true := by
  have h : l.length ≤ 4194304 := ho
  obtain ⟨K, hk⟩ := evRange0 (σ := Unit) l.length (fun k _ i => laws_eqByteS.l0 k l l i) (fun _ _ => True) (fun _ _ => true) () trivial
    (by
      intro i _ hi _
      refine .inl ⟨(), trivial, rfl, 0, 1, fun k _ => ?_⟩
      simp only [laws_eqByteS.l0]
      rw [if_pos (by omega), if_pos (by omega), if_pos (by omega), if_pos trivial, w64s i (by omega)])
    (by
      intro _ _
      refine ⟨0, 1, fun k _ => ?_⟩
      simp only [laws_eqByteS.l0]
      rw [if_neg (by omega)])
  refine ⟨K, fun k hk' => ?_⟩
  simp only [laws_eqByteS.f]
  rw [if_pos trivial]
  exact hk k hk'

theorem spec_l1In_f (a b c : Int) : spec_l1In.f a b c = some (decide (b ≤ a ∧ a ≤ c)) := by
  unfold spec_l1In.f
  by_cases h : a ≥ b
  · rw [if_pos h]; congr 1; rw [Bool.eq_iff_iff]; simp; omega
  · rw [if_neg h]; congr 1; rw [Bool.eq_iff_iff]; simp; omega

def bytesIn (l : List Int) : Prop := ∀ x ∈ l, 0 ≤ x ∧ x ≤ 255
theorem bytesIn_at {l : List Int} (h : bytesIn l) (i : Nat) : 0 ≤ l.getD i 0 ∧ l.getD i 0 ≤ 255 := by
  by_cases hi : i < l.length
  · exact h _ (getD_mem l i 0 hi)
  · rw [List.getD_eq_getElem?_getD, List.getElem?_eq_none (by omega)]; decide
def getW (l : List Int) (a : Int) : Int × Int × Bool := if 0 ≤ a ∧ a ≤ (l.length : Int) - 2 then (l.getD a.toNat 0 * 256 + l.getD (a.toNat + 1) 0, a + 2, true) else (0, 0, false)

theorem spec_GetW_ev (l : List Int) (a : Int) (h : l.length ≤ 4194304) (hb : bytesIn l) (ha : -9223372036854775808 ≤ a ∧ a ≤ 9223372036854775807) : spec_GetW.f l a = some (getW l a) := by
  unfold spec_GetW.f getW
  rw [w64 (x := (l.length : Int) - 2) (by omega) (by omega), spec_l1In_f]
  simp only [Option.bind_some, decide_eq_true_eq]
  by_cases c : 0 ≤ a ∧ a ≤ (l.length : Int) - 2
  · rw [if_pos c, if_pos c, if_pos c.1, if_pos (by omega), w64 (x := a + 1) (by omega) (by omega), if_pos (by omega), if_pos (by omega), w64 (x := a + 2) (by omega) (by omega)]
    have e1 : rd l a = l.getD a.toNat 0 := rfl
    have e2 : rd l (a + 1) = l.getD (a.toNat + 1) 0 := by unfold rd; congr 1; omega
    rw [e1, e2, orW (bytesIn_at hb _) (bytesIn_at hb _)]
  · rw [if_neg c, if_neg c]

def getText (l : List Int) (a : Int) : ByteArray × Int × Bool :=
  if (getW l a).2.2 = true ∧ (getW l a).1 ≤ 60 ∧ (getW l a).1 ≤ (l.length : Int) - (getW l a).2.1 then
    (strOfNums ((l.take ((getW l a).2.1 + (getW l a).1).toNat).drop (getW l a).2.1.toNat), (getW l a).2.1 + (getW l a).1, true)
  else (⟨#[]⟩, 0, false)
theorem getW_good {l : List Int} {a : Int} (hb : bytesIn l) (h : (getW l a).2.2 = true) : 0 ≤ (getW l a).1 ∧ (getW l a).1 ≤ 65535 ∧ 2 ≤ (getW l a).2.1 ∧ (getW l a).2.1 ≤ (l.length : Int) := by
  unfold getW at h ⊢
  by_cases c : 0 ≤ a ∧ a ≤ (l.length : Int) - 2
  · rw [if_pos c]
    have h1 := bytesIn_at hb a.toNat
    have h2 := bytesIn_at hb (a.toNat + 1)
    simp only
    omega
  · rw [if_neg c] at h; cases h

theorem spec_GetText_ev (l : List Int) (a : Int) (h : l.length ≤ 4194304) (hb : bytesIn l) (ha : -9223372036854775808 ≤ a ∧ a ≤ 9223372036854775807) : spec_GetText.f l a = some (getText l a) := by
  unfold spec_GetText.f getText
  rw [spec_GetW_ev l a h hb ha]
  simp only [Option.bind_some]
  by_cases c : (getW l a).2.2 = true
  · have g := getW_good hb c
    rw [if_pos c, w64 (x := (l.length : Int) - (getW l a).2.1) (by omega) (by omega), w64 (x := (getW l a).2.1 + (getW l a).1) (by omega) (by omega)]
    by_cases c1 : (getW l a).1 > 60
    · rw [if_pos c1, if_neg (by omega)]
    · rw [if_neg c1]
      by_cases c2 : (getW l a).1 > (l.length : Int) - (getW l a).2.1
      · rw [if_pos c2, if_neg (by omega)]
      · rw [if_neg c2, if_pos (by omega), if_pos (by omega), if_pos (by omega), if_pos ⟨c, by omega, by omega⟩]
  · rw [if_neg c, if_neg (fun h => c h.1)]

theorem impl_GetW_ev (l : List Int) (a : Int) (h : l.length ≤ 4194304) (hb : bytesIn l) (ha : -9223372036854775808 ≤ a ∧ a ≤ 9223372036854775807) : impl_GetW.f l a = some (getW l a) := by
  unfold impl_GetW.f getW
  rw [w64 (x := (l.length : Int) - 2) (by omega) (by omega)]
  by_cases c : 0 ≤ a ∧ a ≤ (l.length : Int) - 2
  · rw [if_pos c, if_neg (by omega), if_neg (by omega), if_pos c.1, if_pos (by omega), w64 (x := a + 1) (by omega) (by omega), if_pos (by omega), if_pos (by omega), w64 (x := a + 2) (by omega) (by omega)]
    have e1 : rd l a = l.getD a.toNat 0 := rfl
    have e2 : rd l (a + 1) = l.getD (a.toNat + 1) 0 := by unfold rd; congr 1; omega
    rw [e1, e2, orW (bytesIn_at hb _) (bytesIn_at hb _)]
  · rw [if_neg c]
    by_cases c1 : a < 0
    · rw [if_pos c1]
    · rw [if_neg c1, if_pos (by omega)]

theorem impl_GetText_ev (l : List Int) (a : Int) (h : l.length ≤ 4194304) (hb : bytesIn l) (ha : -9223372036854775808 ≤ a ∧ a ≤ 9223372036854775807) : impl_GetText.f l a = some (getText l a) := by
  unfold impl_GetText.f getText
  rw [impl_GetW_ev l a h hb ha]
  simp only [Option.bind_some]
  by_cases c : (getW l a).2.2 = true
  · have g := getW_good hb c
    rw [if_pos c, w64 (x := (l.length : Int) - (getW l a).2.1) (by omega) (by omega), w64 (x := (getW l a).2.1 + (getW l a).1) (by omega) (by omega)]
    by_cases c1 : (getW l a).1 > 60
    · rw [if_pos c1, if_neg (by omega)]
    · rw [if_neg c1]
      by_cases c2 : (getW l a).1 > (l.length : Int) - (getW l a).2.1
      · rw [if_pos c2, if_neg (by omega)]
      · rw [if_neg c2, if_pos (by omega), if_pos (by omega), if_pos (by omega), if_pos ⟨c, by omega, by omega⟩]
  · rw [if_neg c, if_neg (fun h => c h.1)]

theorem FnExactGetText (l0 : List (Int)) (a1 : Int) (h0 : (l0.length ≤ 9223372036854775807 ∧ ∀ y0 ∈ l0, (Lit.int .u8 y0).wf = true)) (h1 : (Lit.int .i64 a1).wf = true) : ∃ k, laws_FnExactGetText.f k l0 a1 = some true := by
  apply Ev.rounds
  unfold laws_FnExactGetText.f
  by_cases c0 : (l0.length : Int) > 1048576
  · simp only [if_pos c0]; exact Ev.now _
  simp only [if_neg c0]
  have i0 : inByteS l0 := in_of_sumByteS (by unfold sumByteS; omega)
  have o0 : okByteS l0 := ok_of_inByteS i0
  have b0 : bytesIn l0 := fun x hx => wf_u8 (h0.2 x hx)
  have f1 := spec_GetText_ev l0 a1 o0 b0 (wf_i64 h1)
  have f2 := impl_GetText_ev l0 a1 o0 b0 (wf_i64 h1)
  repeat' (first
    | exact Ev.now _
    | (refine Ev.bind (toByteS_ev _ (by assumption)) ?_)
    | (refine Ev.bind (eqByteS_ev _ (by assumption)) ?_)
    | (simp only [Option.bind_some, ↓reduceIte, bne_self_eq_false, Bool.false_eq_true, Bool.not_true, eq_self, f1, f2])
    | (refine Ev.step (fun _ => rfl) ?_; simp only [laws_FnExactGetText.j0]))

end Go.Proofs.Ytbbendmghdccpaa.Pure
