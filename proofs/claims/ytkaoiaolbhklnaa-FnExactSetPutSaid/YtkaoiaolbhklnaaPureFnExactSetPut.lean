/- Whatever the arguments: the law answers true; said of the plain functions that the print made of the Go text, with no condition but that the arguments are of their kinds. -/
import Derived.Test.YtkaoiaolbhklnaaPFnExactSetPutx0
import Derived.Test.YtkaoiaolbhklnaaPFnExactSetPutx1
import Derived.Test.YtkaoiaolbhklnaaPFnExactSetPutx2
import Derived.Test.YtkaoiaolbhklnaaPFnExactSetPutx3
import Derived.Test.YtkaoiaolbhklnaaPFnExactSetPutx4
import Derived.Test.YtkaoiaolbhklnaaPFnExactSetPutx5
import Derived.Test.YtkaoiaolbhklnaaCore
namespace Go.Proofs.Ytkaoiaolbhklnaa.Pure
open Go.RowKit Go.Proofs.Ytkaoiaolbhklnaa.PFnExactSetPut Go.Proofs.Ytkaoiaolbhklnaa.Core Go.Proofs.YtkaoiaolbhklnaaW.PrintWords Go.Proofs.YtkaoiaolbhklnaaW.PrintLast
set_option linter.unusedSimpArgs false
set_option linter.unusedVariables false

def toK (x : S24) : S27 := ⟨x.f0, x.f1, x.f2, x.f3, x.f4⟩

def okKeyS (l : List S27) : Prop := l.length ≤ 4194304
def cntKeyS (l : List S27) : Int := 5 * l.length
theorem cntKeyS_nn {l : List S27} (h : okKeyS l) : 0 ≤ cntKeyS l ∧ cntKeyS l ≤ 1073741824 := by unfold okKeyS at h; unfold cntKeyS; omega
def inKeyS (l : List S24) : Prop := l.length ≤ 1048576
def sumKeyS (l : List S24) : Int := l.length
theorem sumKeyS_nn (l : List S24) : 0 ≤ sumKeyS l := by unfold sumKeyS; omega
theorem in_of_sumKeyS {l : List S24} (h : sumKeyS l ≤ 1048576) : inKeyS l := by unfold sumKeyS at h; unfold inKeyS; omega
theorem ok_of_inKeyS {l : List S24} (h : inKeyS l) : okKeyS (l.map toK) := by unfold inKeyS at h; unfold okKeyS; rw [List.length_map]; omega
def goodK (x : S24) : Prop := (Lit.int .i64 x.f0).wf = true ∧ (Lit.int .i64 x.f1).wf = true ∧ (Lit.int .i64 x.f2).wf = true ∧ (Lit.int .i64 x.f3).wf = true ∧ (Lit.int .i64 x.f4).wf = true

theorem szKeyS_f (l : List S24) (a : Int) (hl : l.length ≤ 9223372036854775807) (h0 : 0 ≤ a) (h1 : a ≤ 1048576) : laws_szKeyS.f l a = some (if a < sumKeyS l then -1 else a - sumKeyS l) := by
  unfold laws_szKeyS.f sumKeyS
  rw [w64 (by omega) (by omega)]
  by_cases h : a < (l.length : Int)
  · rw [if_pos (by omega), if_pos h]
  · rw [if_neg (by omega), if_neg h]

theorem toKeyS_ev (l : List S24) (hi : inKeyS l) : Ev (fun k => laws_toKeyS.f k l) (l.map toK) := by
  have h : l.length ≤ 1048576 := hi
  have hl : ∀ i, i ≤ l.length → (fill (fun i => toK (l.getD i z24)) (List.replicate l.length z27) i).length = l.length := fun i hi => by rw [fill_length _ _ _ (by simpa using hi)]; simp
  obtain ⟨K, hk⟩ := evRange0 (σ := List S27) l.length (fun k s i => laws_toKeyS.l0 k l s i) (fun i s => s = fill (fun i => toK (l.getD i z24)) (List.replicate l.length z27) i) (fun _ _ => l.map toK) (List.replicate l.length z27) (fill_zero _ _).symm
    (by
      intro i s hi hs
      subst hs
      refine .inl ⟨_, rfl, rfl, 0, 1, fun k _ => ?_⟩
      have h1 := hl i (by omega)
      simp only [laws_toKeyS.l0]
      rw [if_pos (by omega), if_pos (by omega)]
      simp only [laws_toKey.f, Option.bind_some]
      rw [if_pos (by omega), w64s i (by omega), Int.toNat_natCast, fill_set _ _ _ (by simpa using hi)]
      simp [toK, rd_T24])
    (by
      intro s hs
      subst hs
      refine ⟨0, 1, fun k _ => ?_⟩
      simp only [laws_toKeyS.l0]
      rw [if_neg (by omega)]
      have := fill_all (fun i => toK (l.getD i z24)) (List.replicate l.length z27)
      rw [List.length_replicate] at this
      rw [this, range_map])
  refine ⟨K, fun k hk' => ?_⟩
  simp only [laws_toKeyS.f]
  rw [if_pos (by omega), if_pos (by omega)]
  have e := hk k hk'
  simpa using e

theorem eqKey_refl (x : S27) : laws_eqKey.f x.f0 x.f1 x.f2 x.f3 x.f4 x.f0 x.f1 x.f2 x.f3 x.f4 = some true := by simp [laws_eqKey.f]
theorem eqKey_same (a b c d e : Int) : laws_eqKey.f a b c d e a b c d e = some true := by simp [laws_eqKey.f]
theorem eqKeyS_ev (l : List S27) (ho : okKeyS l) : Ev (fun k => laws_eqKeyS.f k l l) true := by
  have h : l.length ≤ 4194304 := ho
  obtain ⟨K, hk⟩ := evRange0 (σ := Unit) l.length (fun k _ i => laws_eqKeyS.l0 k l l i) (fun _ _ => True) (fun _ _ => true) () trivial
    (by
      intro i _ hi _
      refine .inl ⟨(), trivial, rfl, 0, 1, fun k _ => ?_⟩
      simp only [laws_eqKeyS.l0]
      rw [if_pos (by omega), if_pos (by omega), if_pos (by omega), eqKey_refl, w64s i (by omega)]
      rfl)
    (by
      intro _ _
      refine ⟨0, 1, fun k _ => ?_⟩
      simp only [laws_eqKeyS.l0]
      rw [if_neg (by omega)])
  refine ⟨K, fun k hk' => ?_⟩
  simp only [laws_eqKeyS.f]
  rw [if_pos trivial]
  exact hk k hk'

def mkK (a : Int) (i : Nat) : S27 := ⟨a + 5 * i, a + 5 * i + 1, a + 5 * i + 2, a + 5 * i + 3, a + 5 * i + 4⟩
def mkKeyS (l : List S27) (a : Int) : List S27 := (List.range l.length).map (mkK a)
theorem mkKeyS_length (l : List S27) (a : Int) : (mkKeyS l a).length = l.length := by simp [mkKeyS]
theorem markKeyS_ev (l : List S27) (a : Int) (ho : okKeyS l) (h0 : 0 ≤ a) (h1 : a ≤ 1099511627776) : Ev (fun k => laws_markKeyS.f k l a) (a + cntKeyS l, mkKeyS l a) := by
  have h : l.length ≤ 4194304 := ho
  obtain ⟨K, hk⟩ := evRange0 (σ := List S27 × Int) l.length (fun k s i => laws_markKeyS.l0 k s.1 s.2 i) (fun i s => s = (fill (mkK a) l i, a + 5 * i)) (fun _ _ => (a + cntKeyS l, mkKeyS l a)) (l, a) (by simp [fill_zero])
    (by
      intro i s hi hs
      subst hs
      refine .inl ⟨_, rfl, rfl, 0, 1, fun k _ => ?_⟩
      have hl := fill_length (mkK a) l i (by omega)
      simp only [laws_markKeyS.l0]
      rw [if_pos (by omega), if_pos (by omega)]
      simp only [Option.bind_some]
      rw [w64 (x := a + 5 * (i : Int) + 1) (by omega) (by omega), w64 (x := a + 5 * (i : Int) + 1 + 1) (by omega) (by omega), w64 (x := a + 5 * (i : Int) + 1 + 1 + 1) (by omega) (by omega), w64 (x := a + 5 * (i : Int) + 1 + 1 + 1 + 1) (by omega) (by omega), w64 (x := a + 5 * (i : Int) + 1 + 1 + 1 + 1 + 1) (by omega) (by omega), w64s i (by omega), Int.toNat_natCast]
      have hr : ∀ (m : List S27) (v : S27), i < m.length → rd_T27 (m.set i v) (i : Int) = v := fun m v hm => by simp [rd_T27, hm]
      rw [hr _ _ (by omega), hr _ _ (by simp; omega), hr _ _ (by simp; omega), hr _ _ (by simp; omega)]
      simp only [List.set_set]
      rw [fill_set (mkK a) l i hi (by simp only [mkK]; congr 1 <;> omega)]
      congr 1
      push_cast
      omega)
    (by
      intro s hs
      subst hs
      refine ⟨0, 1, fun k _ => ?_⟩
      have hl := fill_length (mkK a) l l.length (by omega)
      simp only [laws_markKeyS.l0]
      rw [if_neg (by omega), fill_all]
      rfl)
  exact ⟨K, fun k hk' => hk k hk'⟩

theorem heldKeyS_ev (l : List S27) (a : Int) (ho : okKeyS l) (h0 : 0 ≤ a) (h1 : a ≤ 1099511627776) : Ev (fun k => laws_heldKeyS.f k (mkKeyS l a) a) (a + cntKeyS l) := by
  have h : l.length ≤ 4194304 := ho
  have hl := mkKeyS_length l a
  obtain ⟨K, hk⟩ := evRange0 (σ := Int) l.length (fun k s i => laws_heldKeyS.l0 k (mkKeyS l a) s i) (fun i s => s = a + 5 * i) (fun _ _ => a + cntKeyS l) a (by simp)
    (by
      intro i s hi hs
      subst hs
      refine .inl ⟨_, rfl, rfl, 0, 1, fun k _ => ?_⟩
      have hr : rd_T27 (mkKeyS l a) (i : Int) = mkK a i := by
        unfold rd_T27 mkKeyS
        rw [Int.toNat_natCast, range_getD _ _ _ _ hi]
      simp only [laws_heldKeyS.l0]
      rw [if_pos (by omega), if_pos (by omega), hr]
      rw [w64 (x := a + 5 * (i : Int) + 1) (by omega) (by omega), w64 (x := a + 5 * (i : Int) + 1 + 1) (by omega) (by omega), w64 (x := a + 5 * (i : Int) + 1 + 1 + 1) (by omega) (by omega), w64 (x := a + 5 * (i : Int) + 1 + 1 + 1 + 1) (by omega) (by omega), w64 (x := a + 5 * (i : Int) + 1 + 1 + 1 + 1 + 1) (by omega) (by omega), w64s i (by omega)]
      rw [if_pos (show (mkK a i).f0 = a + 5 * (i : Int) from rfl), if_pos (show (mkK a i).f1 = a + 5 * (i : Int) + 1 from rfl), if_pos (show (mkK a i).f2 = a + 5 * (i : Int) + 1 + 1 by simp only [mkK]; omega), if_pos (show (mkK a i).f3 = a + 5 * (i : Int) + 1 + 1 + 1 by simp only [mkK]; omega), if_pos (show (mkK a i).f4 = a + 5 * (i : Int) + 1 + 1 + 1 + 1 by simp only [mkK]; omega)]
      congr 1
      push_cast
      omega)
    (by
      intro s hs
      subst hs
      refine ⟨0, 1, fun k _ => ?_⟩
      simp only [laws_heldKeyS.l0]
      rw [if_neg (by omega)]
      rfl)
  exact ⟨K, fun k hk' => hk k hk'⟩

/-! What a set of keys is: the model of its functions. -/
def less (a b : S27) : Bool := decide (a.f0 < b.f0 ∨ a.f0 = b.f0 ∧ a.f1 < b.f1)
def same (a b : S27) : Bool := decide (a.f0 = b.f0 ∧ a.f1 = b.f1)
def putGo (k : S27) : List S27 → Bool → List S27
  | [], p => if p then [] else [k]
  | x :: xs, p => (if p || less x k then [] else [k]) ++ ((if same x k then [] else [x]) ++ putGo k xs (p || !less x k))
def setPut (l : List S27) (k : S27) : List S27 := putGo k l false
def mergeSets (a b : List S27) : List S27 := b.foldl setPut a
def dropNone (l : List S27) : List S27 := l.filter fun x => x.f2 != 0
theorem putGo_length (k : S27) : ∀ (l : List S27) (p : Bool), (putGo k l p).length ≤ l.length + 1
  | [], p => by cases p <;> simp [putGo]
  | x :: xs, p => by
    have ih := putGo_length k xs
    have ih1 : p = true → (putGo k xs true).length ≤ xs.length := fun _ => by
      clear ih
      induction xs with
      | nil => simp [putGo]
      | cons y ys ih => simp only [putGo, Bool.true_or, if_true, List.nil_append, List.length_append, List.length_cons]; split <;> simp <;> omega
    simp only [putGo, List.length_append, List.length_cons]
    cases p with
    | true => simp only [Bool.true_or, if_true, List.length_nil]; have := ih1 rfl; split <;> simp <;> omega
    | false =>
      cases hx : less x k with
      | true => simp only [Bool.false_or, if_true, Bool.not_true, List.length_nil]; have := ih false; split <;> simp <;> omega
      | false =>
        simp only [Bool.false_or, Bool.not_false, if_false, Bool.false_eq_true, List.length_cons, List.length_nil]
        have h2 : (putGo k xs true).length ≤ xs.length := by
          clear ih ih1
          induction xs with
          | nil => simp [putGo]
          | cons y ys ih => simp only [putGo, Bool.true_or, if_true, List.nil_append, List.length_append, List.length_cons]; split <;> simp <;> omega
        split <;> simp <;> omega
theorem setPut_length (l : List S27) (k : S27) : (setPut l k).length ≤ l.length + 1 := putGo_length k l false
theorem mergeSets_length (a b : List S27) : (mergeSets a b).length ≤ a.length + b.length := by
  unfold mergeSets
  induction b generalizing a with
  | nil => simp
  | cons x xs ih => simp only [List.foldl_cons, List.length_cons]; have := ih (setPut a x); have := setPut_length a x; omega

theorem spec_LessKey_f (a b : S27) : spec_LessKey.f a.f0 a.f1 a.f2 a.f3 a.f4 b.f0 b.f1 b.f2 b.f3 b.f4 = some (less a b) := by
  unfold spec_LessKey.f less
  split
  · simp [*]
  · simp [*]

theorem spec_SameSpot_f (a b : S27) : spec_SameSpot.f a.f0 a.f1 a.f2 a.f3 a.f4 b.f0 b.f1 b.f2 b.f3 b.f4 = some (same a b) := by
  unfold spec_SameSpot.f same
  split
  · simp only [*, true_and, Option.some.injEq]; rw [Bool.eq_iff_iff]; simp
  · simp [*]

theorem spec_SetPut_ev (l : List S27) (x : S27) (h : l.length ≤ 4194304) : Ev (fun k => spec_SetPut.f k l x.f0 x.f1 x.f2 x.f3 x.f4) (setPut l x) := by
  obtain ⟨K, hk⟩ := evRange0 (σ := List S27 × Bool) l.length (fun k s i => spec_SetPut.l0 k l s.1 s.2 i x.f0 x.f1 x.f2 x.f3 x.f4) (fun i s => s.1.length ≤ 2 * i) (fun i s => s.1 ++ putGo x (l.drop i) s.2) ([], false) (by simp)
    (by
      intro i s hi hs
      obtain ⟨out, put⟩ := s
      simp only at hs
      have hd := drop_getD l i z27 hi
      have hr : rd_T27 l (i : Int) = l.getD i z27 := by simp [rd_T27]
      refine .inl ⟨(out ++ (if put || less (l.getD i z27) x then [] else [x]) ++ (if same (l.getD i z27) x then [] else [l.getD i z27]), put || !less (l.getD i z27) x), ?_, ?_, 0, 2, fun k _ => ?_⟩
      · simp only [List.length_append]; split <;> split <;> simp <;> omega
      · simp only [hd, putGo, List.append_assoc]
      · generalize hy : l.getD i z27 = y at *
        have hw := w64s i (by omega)
        have c1 : (i : Int) < (l.length : Int) := by omega
        have c2 : 0 ≤ (i : Int) := by omega
        simp only [spec_SetPut.l0, hr, spec_LessKey_f, Option.bind_some, spec_SetPut.j1, if_pos c1, if_pos c2]
        cases put <;> cases hl : less y x <;> cases hq : same y x <;>
          simp only [Bool.not_true, Bool.not_false, if_true, if_false, Bool.false_eq_true, reduceCtorEq, spec_SameSpot_f, Option.bind_some, hq, hw, Bool.or_true, Bool.true_or, Bool.or_false, Bool.false_or, List.append_nil, List.append_assoc] <;>
          (repeat rw [if_pos (by first | omega | (simp only [List.length_append, List.length_cons, List.length_nil]; omega))]) <;> rfl)
    (by
      intro s hs
      obtain ⟨out, put⟩ := s
      simp only at hs
      refine ⟨0, 1, fun k _ => ?_⟩
      simp only [spec_SetPut.l0]
      rw [if_neg (by omega)]
      cases put
      · rw [if_neg (by simp), if_pos (by omega)]; simp [putGo]
      · rw [if_pos rfl]; simp [putGo])
  exact ⟨K, fun k hk' => hk k hk'⟩

theorem impl_LessKey_f (a b : S27) : impl_LessKey.f a.f0 a.f1 a.f2 a.f3 a.f4 b.f0 b.f1 b.f2 b.f3 b.f4 = some (less a b) := by
  unfold impl_LessKey.f less
  split
  · simp [*]
  · split
    · simp [*]
    · simp [*]

theorem impl_SameSpot_f (a b : S27) : impl_SameSpot.f a.f0 a.f1 a.f2 a.f3 a.f4 b.f0 b.f1 b.f2 b.f3 b.f4 = some (same a b) := by
  unfold impl_SameSpot.f same
  split
  · simp only [*, true_and, Option.some.injEq]; rw [Bool.eq_iff_iff]; simp
  · simp [*]

theorem impl_SetPut_ev (l : List S27) (x : S27) (h : l.length ≤ 4194304) : Ev (fun k => impl_SetPut.f k l x.f0 x.f1 x.f2 x.f3 x.f4) (setPut l x) := by
  obtain ⟨K, hk⟩ := evRange0 (σ := List S27 × Bool) l.length (fun k s i => impl_SetPut.l0 k s.1 s.2 l (l.length : Int) i x.f0 x.f1 x.f2 x.f3 x.f4) (fun i s => s.1.length ≤ 2 * i) (fun i s => s.1 ++ putGo x (l.drop i) s.2) ([], false) (by simp)
    (by
      intro i s hi hs
      obtain ⟨out, put⟩ := s
      simp only at hs
      have hd := drop_getD l i z27 hi
      have hr : rd_T27 l (i : Int) = l.getD i z27 := by simp [rd_T27]
      refine .inl ⟨(out ++ (if put || less (l.getD i z27) x then [] else [x]) ++ (if same (l.getD i z27) x then [] else [l.getD i z27]), put || !less (l.getD i z27) x), ?_, ?_, 0, 2, fun k _ => ?_⟩
      · simp only [List.length_append]; split <;> split <;> simp <;> omega
      · simp only [hd, putGo, List.append_assoc]
      · generalize hy : l.getD i z27 = y at *
        simp only [impl_SetPut.l0, hr]
        rw [if_pos (by omega), if_pos (by omega), if_pos (by omega)]
        rw [impl_LessKey_f]
        simp only [Option.bind_some, impl_SetPut.j1]
        have hw := w64s i (by omega)
        cases put <;> cases hl : less y x <;> cases hq : same y x <;>
          simp only [Bool.not_true, Bool.not_false, if_true, if_false, Bool.false_eq_true, reduceCtorEq, impl_SameSpot_f, Option.bind_some, hq, hw, Bool.or_true, Bool.true_or, Bool.or_false, Bool.false_or, List.append_nil, List.append_assoc] <;>
          (repeat rw [if_pos (by first | omega | (simp only [List.length_append, List.length_cons, List.length_nil]; omega))]) <;> rfl)
    (by
      intro s hs
      obtain ⟨out, put⟩ := s
      simp only at hs
      refine ⟨0, 1, fun k _ => ?_⟩
      simp only [impl_SetPut.l0]
      rw [if_neg (by omega)]
      cases put
      · rw [if_neg (by simp), if_pos (by omega)]; simp [putGo]
      · rw [if_pos rfl]; simp [putGo])
  exact ⟨K, fun k hk' => hk k hk'⟩

theorem FnExactSetPut (l0 : List S24) (a1_0 a1_1 a1_2 a1_3 a1_4 : Int) (h0 : (l0.length ≤ 9223372036854775807 ∧ ∀ x ∈ l0, goodK x)) (h1 : (Lit.int .i64 a1_0).wf = true ∧ (Lit.int .i64 a1_1).wf = true ∧ (Lit.int .i64 a1_2).wf = true ∧ (Lit.int .i64 a1_3).wf = true ∧ (Lit.int .i64 a1_4).wf = true) : ∃ k, laws_FnExactSetPut.f k l0 a1_0 a1_1 a1_2 a1_3 a1_4 = some true := by
  apply Ev.rounds
  unfold laws_FnExactSetPut.f
  have u0 := sumKeyS_nn l0
  have z0 := szKeyS_f l0 (1048576) h0.1 (by omega) (by omega)
  by_cases c0 : 1048576 < (sumKeyS l0 : Int)
  · rw [if_pos c0] at z0; simp only [z0, Option.bind_some, if_pos (show (-1 : Int) < 0 by decide)]; exact Ev.now _
  rw [if_neg c0] at z0
  simp only [z0, Option.bind_some, if_neg (show ¬ (1048576 - sumKeyS l0 : Int) < 0 by omega)]
  have i0 : inKeyS l0 := in_of_sumKeyS (by omega)
  have o0 : okKeyS (l0.map toK) := ok_of_inKeyS i0
  have q0 := cntKeyS_nn o0
  have oR : okKeyS (setPut (l0.map toK) (⟨a1_0, a1_1, a1_2, a1_3, a1_4⟩ : S27)) := (by have := setPut_length (l0.map toK) (⟨a1_0, a1_1, a1_2, a1_3, a1_4⟩ : S27); simp only [List.length_map] at this; unfold okKeyS; unfold sumKeyS at *; omega)
  have qR := cntKeyS_nn oR
  repeat' (first
    | exact Ev.now _
    | (refine Ev.bind (toKeyS_ev _ (by assumption)) ?_)
    | (refine Ev.bind (eqKeyS_ev _ (by assumption)) ?_)
    | (refine Ev.bind (markKeyS_ev _ _ (by assumption) (by omega) (by omega)) ?_)
    | (refine Ev.bind (heldKeyS_ev _ _ (by assumption) (by omega) (by omega)) ?_)
    | (refine Ev.bind (spec_SetPut_ev (l0.map toK) (⟨a1_0, a1_1, a1_2, a1_3, a1_4⟩ : S27) (by simp only [List.length_map]; unfold sumKeyS at *; omega)) ?_)
    | (refine Ev.bind (impl_SetPut_ev (l0.map toK) (⟨a1_0, a1_1, a1_2, a1_3, a1_4⟩ : S27) (by simp only [List.length_map]; unfold sumKeyS at *; omega)) ?_)
    | (simp only [Option.bind_some, ↓reduceIte, bne_self_eq_false, Bool.false_eq_true, Bool.not_true, laws_toKey.f, if_neg (show ¬ 1 + cntKeyS (l0.map toK) < 0 by omega), if_neg (show ¬ 1 + cntKeyS (setPut (l0.map toK) (⟨a1_0, a1_1, a1_2, a1_3, a1_4⟩ : S27)) < 0 by omega)])
    | (refine Ev.step (fun _ => rfl) ?_; simp only [laws_FnExactSetPut.j0]))

end Go.Proofs.Ytkaoiaolbhklnaa.Pure
