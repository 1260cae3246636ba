/- Whatever the arguments: the law answers true; said of the plain functions that the print made of the Go text, with no condition but that the arguments are of their kinds. -/
import Derived.Test.YtbbendmghdccpaaMFnExactPutTextx0
import Derived.Test.YtbbendmghdccpaaMFnExactPutTextx1
import Derived.Test.YtbbendmghdccpaaMFnExactPutTextx2
import Derived.Test.YtbbendmghdccpaaCore
namespace Go.Proofs.Ytbbendmghdccpaa.Pure
open Go.RowKit Go.Proofs.Ytbbendmghdccpaa.PFnExactPutText Go.Proofs.Ytbbendmghdccpaa.Core Go.Proofs.YtbbendmghdccpaaW.PrintWords Go.Proofs.YtbbendmghdccpaaW.PrintLast
set_option linter.unusedSimpArgs false
set_option linter.unusedVariables false

def okByteS (l : List Int) : Prop := l.length ≤ 4194304
def cntByteS (l : List Int) : Int := l.length
theorem cntByteS_nn {l : List Int} (h : okByteS l) : 0 ≤ cntByteS l ∧ cntByteS l ≤ 1073741824 := by unfold okByteS at h; unfold cntByteS; omega
def inByteS (l : List Int) : Prop := l.length ≤ 1048576
theorem ok_of_inByteS {l : List Int} (h : inByteS l) : okByteS l := by unfold inByteS at h; unfold okByteS; omega
def sumByteS (l : List Int) : Int := l.length
theorem sumByteS_nn (l : List Int) : 0 ≤ sumByteS l := by unfold sumByteS; omega
theorem in_of_sumByteS {l : List Int} (h : sumByteS l ≤ 1048576) : inByteS l := by unfold sumByteS at h; unfold inByteS; omega

theorem toByteS_ev (l : List Int) (hi : inByteS l) : Ev (fun k => laws_toByteS.f k l) l := by
  have h : l.length ≤ 1048576 := hi
  have hl : ∀ i, i ≤ l.length → (fill (fun i => l.getD i 0) (List.replicate l.length (0 : Int)) i).length = l.length := fun i hi => by rw [fill_length _ _ _ (by simpa using hi)]; simp
  obtain ⟨K, hk⟩ := evRange0 (σ := List Int) l.length (fun k s i => laws_toByteS.l0 k l s i) (fun i s => s = fill (fun i => l.getD i 0) (List.replicate l.length (0 : Int)) i) (fun _ _ => l) (List.replicate l.length (0 : Int)) (fill_zero _ _).symm
    (by
      intro i s hi hs
      subst hs
      refine .inl ⟨_, rfl, rfl, 0, 1, fun k _ => ?_⟩
      have h1 := hl i (by omega)
      simp only [laws_toByteS.l0]
      rw [if_pos (by omega), if_pos (by omega), if_pos (by omega), w64s i (by omega), Int.toNat_natCast, fill_set _ _ _ (by simpa using hi) (rd_nat l i)])
    (by
      intro s hs
      subst hs
      refine ⟨0, 1, fun k _ => ?_⟩
      simp only [laws_toByteS.l0]
      rw [if_neg (by omega)]
      have := fill_all (fun i => l.getD i 0) (List.replicate l.length (0 : Int))
      rw [List.length_replicate] at this
      rw [this, range_id])
  refine ⟨K, fun k hk' => ?_⟩
  simp only [laws_toByteS.f]
  rw [if_pos (by omega), if_pos (by omega)]
  have e := hk k hk'
  simpa using e

theorem eqByteS_ev (l : List Int) (ho : okByteS l) : Ev (fun k => laws_eqByteS.f k l l) true := by
  have h : l.length ≤ 4194304 := ho
  obtain ⟨K, hk⟩ := evRange0 (σ := Unit) l.length (fun k _ i => laws_eqByteS.l0 k l l i) (fun _ _ => True) (fun _ _ => true) () trivial
    (by
      intro i _ hi _
      refine .inl ⟨(), trivial, rfl, 0, 1, fun k _ => ?_⟩
      simp only [laws_eqByteS.l0]
      rw [if_pos (by omega), if_pos (by omega), if_pos (by omega), if_pos trivial, w64s i (by omega)])
    (by
      intro _ _
      refine ⟨0, 1, fun k _ => ?_⟩
      simp only [laws_eqByteS.l0]
      rw [if_neg (by omega)])
  refine ⟨K, fun k hk' => ?_⟩
  simp only [laws_eqByteS.f]
  rw [if_pos trivial]
  exact hk k hk'

def mkByteS (l : List Int) (a : Int) : List Int := (List.range l.length).map fun (i : Nat) => (a + (i : Int)) % 256
theorem mkByteS_length (l : List Int) (a : Int) : (mkByteS l a).length = l.length := by simp [mkByteS]
theorem markByteS_ev (l : List Int) (a : Int) (ho : okByteS l) (h0 : 0 ≤ a) (h1 : a ≤ 1099511627776) : Ev (fun k => laws_markByteS.f k l a) (a + cntByteS l, mkByteS l a) := by
  have h : l.length ≤ 4194304 := ho
  obtain ⟨K, hk⟩ := evRange0 (σ := List Int × Int) l.length (fun k s i => laws_markByteS.l0 k s.1 s.2 i) (fun i s => s = (fill (fun i => (a + (i : Int)) % 256) l i, a + i)) (fun _ _ => (a + cntByteS l, mkByteS l a)) (l, a) (by simp [fill_zero])
    (by
      intro i s hi hs
      subst hs
      refine .inl ⟨_, rfl, rfl, 0, 1, fun k _ => ?_⟩
      have hl := fill_length (fun i => (a + (i : Int)) % 256) l i (by omega)
      simp only [laws_markByteS.l0]
      rw [if_pos (by omega), if_pos (by omega), w64 (x := a + (i : Int) + 1) (by omega) (by omega), w64s i (by omega), Int.toNat_natCast, fill_set _ l i hi rfl]
      congr 1
      push_cast
      omega)
    (by
      intro s hs
      subst hs
      refine ⟨0, 1, fun k _ => ?_⟩
      have hl := fill_length (fun i => (a + (i : Int)) % 256) l l.length (by omega)
      simp only [laws_markByteS.l0]
      rw [if_neg (by omega), fill_all]
      rfl)
  exact ⟨K, fun k hk' => hk k hk'⟩

theorem heldByteS_ev (l : List Int) (a : Int) (ho : okByteS l) (h0 : 0 ≤ a) (h1 : a ≤ 1099511627776) : Ev (fun k => laws_heldByteS.f k (mkByteS l a) a) (a + cntByteS l) := by
  have h : l.length ≤ 4194304 := ho
  have hl := mkByteS_length l a
  obtain ⟨K, hk⟩ := evRange0 (σ := Int) l.length (fun k s i => laws_heldByteS.l0 k (mkByteS l a) s i) (fun i s => s = a + i) (fun _ _ => a + cntByteS l) a (by simp)
    (by
      intro i s hi hs
      subst hs
      refine .inl ⟨_, rfl, rfl, 0, 1, fun k _ => ?_⟩
      have hr : rd (mkByteS l a) (i : Int) = (a + (i : Int)) % 256 := by
        unfold mkByteS
        rw [rd_nat, range_getD _ _ _ _ hi]
      simp only [laws_heldByteS.l0]
      rw [if_pos (by omega), if_pos (by omega), if_pos hr, w64 (x := a + (i : Int) + 1) (by omega) (by omega), w64s i (by omega)]
      congr 1
      push_cast
      omega)
    (by
      intro s hs
      subst hs
      refine ⟨0, 1, fun k _ => ?_⟩
      simp only [laws_heldByteS.l0]
      rw [if_neg (by omega)]
      rfl)
  exact ⟨K, fun k hk' => hk k hk'⟩

def putW (l : List Int) (n : Int) : List Int := l ++ [n / 256 % 256, n % 256]
theorem putW_length (l : List Int) (n : Int) : (putW l n).length = l.length + 2 := by simp [putW]

theorem spec_PutW_ev (l : List Int) (n : Int) (h : l.length ≤ 4194304) : spec_PutW.f l n = some (putW l n) := by
  simp only [spec_PutW.f, Option.bind_some, List.length_nil, List.nil_append, List.length_cons, putW]
  rw [if_pos (by omega), if_pos (by omega)]

def putText (l : List Int) (s : ByteArray) : List Int := if s.size > 60 then l else putW l s.size ++ bytesOf s
theorem putText_length (l : List Int) (s : ByteArray) : (putText l s).length ≤ l.length + 62 := by
  unfold putText
  split
  · omega
  · rw [List.length_append, putW_length, bytesOf_length]; omega

theorem spec_PutText_ev (l : List Int) (s : ByteArray) (h : l.length ≤ 4194304) : spec_PutText.f l s = some (putText l s) := by
  simp only [spec_PutText.f, Option.bind_some, List.length_nil, List.nil_append, putText]
  by_cases c : s.size > 60
  · rw [if_pos (by omega), if_pos c, if_pos (by omega)]
  · have hl := putW_length l (s.size : Int)
    rw [if_neg (by omega), if_neg c, spec_PutW_ev l _ h]
    simp only [Option.bind_some]
    rw [if_pos (by omega)]

theorem impl_joined_ev (ls : List (List Int)) (h : ls.flatten.length ≤ 4194304) (h2 : ls.length ≤ 4194304) : Ev (fun k => impl_joined.f k ls) ls.flatten := by
  obtain ⟨K, hk⟩ := evRange0 (σ := List Int) ls.length (fun k s i => impl_joined.l0 k s ls (ls.length : Int) i) (fun i s => s ++ (ls.drop i).flatten = ls.flatten) (fun _ _ => ls.flatten) [] (by simp)
    (by
      intro i s hi hs
      have hd := drop_getD ls i [] hi
      have hr : rd_L1 ls (i : Int) = ls.getD i [] := by simp [rd_L1]
      rw [hd, List.flatten_cons] at hs
      generalize ls.getD i [] = y at *
      have hl : s.length + y.length ≤ 4194304 := by
        have := congrArg List.length hs
        simp only [List.length_append] at this
        omega
      refine .inl ⟨s ++ y, by rw [List.append_assoc]; exact hs, rfl, 0, 1, fun k _ => ?_⟩
      simp only [impl_joined.l0, hr]
      rw [if_pos (by omega), if_pos (by omega), if_pos (by omega), if_pos (by omega), w64s i (by omega)])
    (by
      intro s hs
      refine ⟨0, 1, fun k _ => ?_⟩
      simp only [impl_joined.l0]
      rw [if_neg (by omega)]
      simpa using hs)
  exact ⟨K, fun k hk' => hk k hk'⟩

theorem impl_PutW_ev (l : List Int) (n : Int) (h : l.length ≤ 4194000) : Ev (fun k => impl_PutW.f k l n) (putW l n) := by
  obtain ⟨K, e⟩ := impl_joined_ev [l, [n / 256 % 256, n % 256]] (by simp; omega) (by simp)
  refine ⟨K, fun k hk => ?_⟩
  have e1 := e k hk
  simp only [impl_PutW.f, and255]
  have e2 : n / 256 % 256 % 256 = n / 256 % 256 := by omega
  have e3 : n % 256 % 256 = n % 256 := by omega
  rw [e2, e3]
  simp only at e1
  rw [e1]
  simp [putW]

theorem impl_PutText_ev (l : List Int) (s : ByteArray) (h : l.length ≤ 4194000) : Ev (fun k => impl_PutText.f k l s) (putText l s) := by
  unfold impl_PutText.f putText
  by_cases c : s.size > 60
  · simp only [if_pos (show (s.size : Int) > 60 by omega), if_pos c]
    have := impl_joined_ev [l] (by simp; omega) (by simp)
    simpa using this
  · simp only [if_neg (show ¬ (s.size : Int) > 60 by omega), if_neg c]
    have hl := putW_length l (s.size : Int)
    refine Ev.bind (impl_PutW_ev l _ h) ?_
    have := impl_joined_ev [putW l (s.size : Int), bytesOf s] (by simp [bytesOf_length]; omega) (by simp)
    simpa using this

theorem FnExactPutText (l0 : List (Int)) (a1 : ByteArray) (h0 : (l0.length ≤ 9223372036854775807 ∧ ∀ y0 ∈ l0, (Lit.int .u8 y0).wf = true)) (h1 : a1.size ≤ 9223372036854775807) : ∃ k, laws_FnExactPutText.f k l0 a1 = some true := by
  apply Ev.rounds
  unfold laws_FnExactPutText.f
  by_cases c0 : (l0.length : Int) > 1048576
  · simp only [if_pos c0]; exact Ev.now _
  simp only [if_neg c0]
  have i0 : inByteS l0 := in_of_sumByteS (by unfold sumByteS; omega)
  by_cases c1 : (a1.size : Int) > 1048576
  · simp only [if_pos c1]; exact Ev.now _
  simp only [if_neg c1]
  have o0 : okByteS l0 := ok_of_inByteS i0
  have q0 := cntByteS_nn o0
  have f1 := spec_PutText_ev l0 a1 o0
  have oR : okByteS (putText l0 a1) := (by have h := putText_length l0 a1; unfold okByteS; unfold inByteS at i0; omega)
  have qR := cntByteS_nn oR
  repeat' (first
    | exact Ev.now _
    | (refine Ev.bind (toByteS_ev _ (by assumption)) ?_)
    | (refine Ev.bind (eqByteS_ev _ (by assumption)) ?_)
    | (refine Ev.bind (markByteS_ev _ _ (by assumption) (by omega) (by omega)) ?_)
    | (refine Ev.bind (heldByteS_ev _ _ (by assumption) (by omega) (by omega)) ?_)
    | (refine Ev.bind (impl_PutText_ev _ _ (by unfold inByteS at i0; omega)) ?_)
    | (simp only [Option.bind_some, ↓reduceIte, bne_self_eq_false, Bool.false_eq_true, Bool.not_true, eq_self, if_neg (show ¬ 1 + cntByteS l0 < 0 by omega), if_neg (show ¬ 1 + cntByteS (putText l0 a1) < 0 by omega), f1])
    | (refine Ev.step (fun _ => rfl) ?_; simp only [laws_FnExactPutText.j0]))

end Go.Proofs.Ytbbendmghdccpaa.Pure
