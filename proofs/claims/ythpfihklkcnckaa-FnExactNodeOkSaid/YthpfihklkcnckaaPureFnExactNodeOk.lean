/- Whatever the arguments: the law answers true; said of the plain functions that the print made of the Go text, with no condition but that the arguments are of their kinds. -/
import Derived.Test.YthpfihklkcnckaaMFnExactNodeOkx0
import Derived.Test.YthpfihklkcnckaaMFnExactNodeOkx1
import Derived.Test.YthpfihklkcnckaaMFnExactNodeOkx2
import Derived.Test.YthpfihklkcnckaaMFnExactNodeOkx3
import Derived.Test.YthpfihklkcnckaaMFnExactNodeOkx4
import Derived.Test.YthpfihklkcnckaaMFnExactNodeOkx5
import Derived.Test.YthpfihklkcnckaaMFnExactNodeOkx6
import Derived.Test.YthpfihklkcnckaaCore
namespace Go.Proofs.Ythpfihklkcnckaa.Pure
open Go.RowKit Go.Proofs.Ythpfihklkcnckaa.PFnExactNodeOk Go.Proofs.Ythpfihklkcnckaa.Core Go.Proofs.YthpfihklkcnckaaW.PrintWords Go.Proofs.YthpfihklkcnckaaW.PrintLast
set_option linter.unusedSimpArgs false
set_option linter.unusedVariables false

def toK (x : S50) : S27 := ⟨x.f0, x.f1, x.f2, x.f3, x.f4⟩

def okKeyS (l : List S27) : Prop := l.length ≤ 4194304
def cntKeyS (l : List S27) : Int := 5 * l.length
theorem cntKeyS_nn {l : List S27} (h : okKeyS l) : 0 ≤ cntKeyS l ∧ cntKeyS l ≤ 1073741824 := by unfold okKeyS at h; unfold cntKeyS; omega
def inKeyS (l : List S50) : Prop := l.length ≤ 1048576
def sumKeyS (l : List S50) : Int := l.length
theorem sumKeyS_nn (l : List S50) : 0 ≤ sumKeyS l := by unfold sumKeyS; omega
theorem in_of_sumKeyS {l : List S50} (h : sumKeyS l ≤ 1048576) : inKeyS l := by unfold sumKeyS at h; unfold inKeyS; omega
theorem ok_of_inKeyS {l : List S50} (h : inKeyS l) : okKeyS (l.map toK) := by unfold inKeyS at h; unfold okKeyS; rw [List.length_map]; omega
def goodK (x : S50) : Prop := (Lit.int .i64 x.f0).wf = true ∧ (Lit.int .i64 x.f1).wf = true ∧ (Lit.int .i64 x.f2).wf = true ∧ (Lit.int .i64 x.f3).wf = true ∧ (Lit.int .i64 x.f4).wf = true

theorem szKeyS_f (l : List S50) (a : Int) (hl : l.length ≤ 9223372036854775807) (h0 : 0 ≤ a) (h1 : a ≤ 1048576) : laws_szKeyS.f l a = some (if a < sumKeyS l then -1 else a - sumKeyS l) := by
  unfold laws_szKeyS.f sumKeyS
  rw [w64 (by omega) (by omega)]
  by_cases h : a < (l.length : Int)
  · rw [if_pos (by omega), if_pos h]
  · rw [if_neg (by omega), if_neg h]
theorem szKeyS_big (l : List S50) (a : Int) (hl : l.length ≤ 9223372036854775807) (h0 : 0 ≤ a) (h1 : a ≤ 1048576) (h : a < sumKeyS l) : Ev (fun _ => laws_szKeyS.f l a) (-1) := evOf fun _ => by rw [szKeyS_f l a hl h0 h1, if_pos h]
theorem szKeyS_fit (l : List S50) (a : Int) (hl : l.length ≤ 9223372036854775807) (h0 : 0 ≤ a) (h1 : a ≤ 1048576) (h : ¬ a < sumKeyS l) : Ev (fun _ => laws_szKeyS.f l a) (a - sumKeyS l) := evOf fun _ => by rw [szKeyS_f l a hl h0 h1, if_neg h]

/-! A slice of them. -/
def convKeySS (l : List (List S50)) : List (List S27) := l.map fun x => x.map toK
def sumKeySS : List (List S50) → Int
  | [] => 0
  | x :: xs => 1 + sumKeyS x + sumKeySS xs
theorem sumKeySS_nn : ∀ l : List (List S50), (l.length : Int) ≤ sumKeySS l
  | [] => by simp [sumKeySS]
  | x :: xs => by
    have := sumKeySS_nn xs
    have := sumKeyS_nn x
    simp only [sumKeySS, List.length_cons]
    omega
theorem sumKeySS_pos (l : List (List S50)) : 0 ≤ sumKeySS l := by have := sumKeySS_nn l; omega
theorem sumKeySS_at : ∀ (l : List (List S50)) (i : Nat), i < l.length → 1 + sumKeyS (l.getD i []) + sumKeySS (l.drop (i + 1)) = sumKeySS (l.drop i) := by
  intro l i hi
  rw [drop_getD l i [] hi]
  rfl
theorem sumKeySS_drop : ∀ (l : List (List S50)) (i : Nat), sumKeySS (l.drop i) ≤ sumKeySS l
  | [], i => by simp
  | x :: xs, 0 => by simp
  | x :: xs, i + 1 => by
    have := sumKeySS_drop xs i
    have := sumKeyS_nn x
    simp only [List.drop_succ_cons, sumKeySS]
    omega
def inKeySS (l : List (List S50)) : Prop := sumKeySS l ≤ 1048576
theorem in_of_sumKeySS {l : List (List S50)} (h : sumKeySS l ≤ 1048576) : inKeySS l := h
theorem inKeySS_len {l : List (List S50)} (h : inKeySS l) : l.length ≤ 1048576 := by have := sumKeySS_nn l; unfold inKeySS at h; omega
theorem inKeySS_at {l : List (List S50)} (h : inKeySS l) (i : Nat) (hi : i < l.length) : inKeyS (l.getD i []) := by
  have h1 := sumKeySS_at l i hi
  have h2 := sumKeySS_drop l i
  have h3 := sumKeySS_nn (l.drop (i + 1))
  unfold inKeySS at h
  exact in_of_sumKeyS (by omega)
/-- What the impl's side holds, all in all. -/
def bulkKeySS : List (List S27) → Nat
  | [] => 0
  | x :: xs => 1 + x.length + bulkKeySS xs
def okKeySS (l : List (List S27)) : Prop := bulkKeySS l ≤ 4194304
theorem bulkKeySS_len : ∀ l : List (List S27), l.length ≤ bulkKeySS l
  | [] => by simp [bulkKeySS]
  | x :: xs => by have := bulkKeySS_len xs; simp only [bulkKeySS, List.length_cons]; omega
theorem bulkKeySS_at : ∀ (l : List (List S27)) (i : Nat), i < l.length → (l.getD i []).length ≤ bulkKeySS l
  | x :: xs, 0, _ => by simp only [bulkKeySS, List.getD_cons_zero]; omega
  | x :: xs, i + 1, h => by
    have := bulkKeySS_at xs i (by simpa using h)
    simp only [bulkKeySS, List.getD_cons_succ]; omega
theorem okKeySS_at {l : List (List S27)} (h : okKeySS l) (i : Nat) (hi : i < l.length) : okKeyS (l.getD i []) := by
  have h1 := bulkKeySS_at l i hi
  unfold okKeySS at h
  show (l.getD i []).length ≤ 4194304
  omega
theorem okKeySS_len {l : List (List S27)} (h : okKeySS l) : l.length ≤ 4194304 := by have := bulkKeySS_len l; unfold okKeySS at h; omega
theorem bulk_convKeySS : ∀ l : List (List S50), (bulkKeySS (convKeySS l) : Int) = sumKeySS l
  | [] => rfl
  | x :: xs => by
    have h1 := bulk_convKeySS xs
    have h2 : (((x.map toK).length : Nat) : Int) = sumKeyS x := by rw [List.length_map]; rfl
    (try simp only at h2)
    simp only [convKeySS] at h1
    simp only [convKeySS, List.map_cons, bulkKeySS, sumKeySS]
    omega
theorem ok_of_inKeySS {l : List (List S50)} (h : inKeySS l) : okKeySS (convKeySS l) := by
  have := bulk_convKeySS l
  unfold inKeySS at h
  unfold okKeySS
  omega

def goodKeySS (l : List (List S50)) : Prop := l.length ≤ 9223372036854775807 ∧ ∀ x ∈ l, x.length ≤ 9223372036854775807
theorem szKeySS_l0 (l : List (List S50)) (hg : goodKeySS l) : ∀ (d i : Nat) (s : Int), l.length - i = d → i ≤ l.length → 0 ≤ s → s ≤ 1048576 → l.length ≤ 1048576 → Ev (fun k => laws_szKeySS.l0 k l s (i : Int)) (if s < sumKeySS (l.drop i) - ((l.length : Int) - i) then -1 else s - (sumKeySS (l.drop i) - ((l.length : Int) - i))) := by
  intro d
  induction d with
  | zero =>
    intro i s hd hi h0 h1 hl
    obtain rfl : i = l.length := by omega
    refine evSucc ⟨0, 1, fun k _ => ?_⟩
    simp only [laws_szKeySS.l0]
    rw [if_neg (by omega), List.drop_length]
    rw [show sumKeySS [] = 0 from rfl, if_neg (by omega)]
    congr 1; omega
  | succ d ih =>
    intro i s hd hi h0 h1 hl
    have hlt : i < l.length := by omega
    have hs := sumKeySS_at l i hlt
    have hn := sumKeySS_nn (l.drop (i + 1))
    rw [List.length_drop] at hn
    have hr : rd_L2 l (i : Int) = l.getD i [] := by simp [rd_L2]
    have hgx := hg.2 _ (getD_mem l i [] hlt)
    generalize l.getD i [] = y at *
    have hy := sumKeyS_nn y
    by_cases c : s < sumKeyS y
    · obtain ⟨K, e⟩ := szKeyS_big y s hgx h0 h1 c
      refine evSucc ⟨K, 1, fun k hk => ?_⟩
      have e1 := e k hk
      simp only at e1
      simp only [laws_szKeySS.l0, hr, e1, Option.bind_some]
      rw [if_pos (by omega), if_pos (by omega), if_pos (by decide), if_pos (by omega)]
    · obtain ⟨K, e⟩ := szKeyS_fit y s hgx h0 h1 c
      obtain ⟨K2, e2⟩ := ih (i + 1) (s - sumKeyS y) (by omega) (by omega) (by omega) (by omega) hl
      refine evSucc ⟨K + K2, 1, fun k hk => ?_⟩
      have e1 := e k (by omega)
      have e3 := e2 k (by omega)
      simp only at e1 e3
      simp only [laws_szKeySS.l0, hr, e1, Option.bind_some]
      rw [if_pos (by omega), if_pos (by omega), if_neg (by omega), w64s i (by omega), e3]
      have hc : ((i + 1 : Nat) : Int) = (i : Int) + 1 := by omega
      rw [hc]
      by_cases c2 : s - sumKeyS y < sumKeySS (l.drop (i + 1)) - ((l.length : Int) - ((i : Int) + 1))
      · rw [if_pos c2, if_pos (by omega)]
      · rw [if_neg c2, if_neg (by omega)]; congr 1; omega
theorem szKeySS_big (l : List (List S50)) (a : Int) (hg : goodKeySS l) (h0 : 0 ≤ a) (h1 : a ≤ 1048576) (h : a < sumKeySS l) : Ev (fun k => laws_szKeySS.f k l a) (-1) := by
  have hn := hg.1
  by_cases c : a < l.length
  · refine evOf fun k => ?_
    simp only [laws_szKeySS.f]
    rw [w64 (by omega) (by omega), if_pos (by omega)]
  · obtain ⟨K, e⟩ := szKeySS_l0 l hg _ 0 (a - l.length) rfl (Nat.zero_le _) (by omega) (by omega) (by omega)
    refine ⟨K, fun k hk => ?_⟩
    have e1 := e k hk
    simp only [laws_szKeySS.f]
    rw [w64 (by omega) (by omega), if_neg (by omega)]
    simp only [List.drop_zero, Int.natCast_zero] at e1
    rw [if_pos (by omega)] at e1
    exact e1
theorem szKeySS_fit (l : List (List S50)) (a : Int) (hg : goodKeySS l) (h0 : 0 ≤ a) (h1 : a ≤ 1048576) (h : ¬ a < sumKeySS l) : Ev (fun k => laws_szKeySS.f k l a) (a - sumKeySS l) := by
  have hn := sumKeySS_nn l
  obtain ⟨K, e⟩ := szKeySS_l0 l hg _ 0 (a - l.length) rfl (Nat.zero_le _) (by omega) (by omega) (by omega)
  refine ⟨K, fun k hk => ?_⟩
  have e1 := e k hk
  simp only [laws_szKeySS.f]
  rw [w64 (by omega) (by omega), if_neg (by omega)]
  simp only [List.drop_zero, Int.natCast_zero] at e1
  rw [if_neg (by omega)] at e1
  rw [show a - sumKeySS l = a - ↑l.length - (sumKeySS l - (↑l.length - 0)) by omega]
  exact e1

theorem szNode_big (l : List (List S50)) (a : Int) (hg : goodKeySS l) (h0 : 0 ≤ a) (h1 : a ≤ 1048576) (h : a < sumKeySS l) : Ev (fun k => laws_szNode.f k l a) (-1) := by
  obtain ⟨K, e⟩ := szKeySS_big l a hg h0 h1 h
  refine ⟨K, fun k hk => ?_⟩
  have e1 := e k hk
  simp only at e1
  simp only [laws_szNode.f, e1, Option.bind_some]
  rfl
theorem szNode_fit (l : List (List S50)) (a : Int) (hg : goodKeySS l) (h0 : 0 ≤ a) (h1 : a ≤ 1048576) (h : ¬ a < sumKeySS l) : Ev (fun k => laws_szNode.f k l a) (a - sumKeySS l) := by
  obtain ⟨K, e⟩ := szKeySS_fit l a hg h0 h1 h
  refine ⟨K, fun k hk => ?_⟩
  have e1 := e k hk
  simp only at e1
  simp only [laws_szNode.f, e1, Option.bind_some]
  rw [if_neg (by omega)]

theorem toKeyS_ev (l : List S50) (hi : inKeyS l) : Ev (fun k => laws_toKeyS.f k l) (l.map toK) := by
  have h : l.length ≤ 1048576 := hi
  have hl : ∀ i, i ≤ l.length → (fill (fun i => toK (l.getD i z50)) (List.replicate l.length z27) i).length = l.length := fun i hi => by rw [fill_length _ _ _ (by simpa using hi)]; simp
  obtain ⟨K, hk⟩ := evRange0 (σ := List S27) l.length (fun k s i => laws_toKeyS.l0 k l s i) (fun i s => s = fill (fun i => toK (l.getD i z50)) (List.replicate l.length z27) i) (fun _ _ => l.map toK) (List.replicate l.length z27) (fill_zero _ _).symm
    (by
      intro i s hi hs
      subst hs
      refine .inl ⟨_, rfl, rfl, 0, 1, fun k _ => ?_⟩
      have h1 := hl i (by omega)
      simp only [laws_toKeyS.l0]
      rw [if_pos (by omega), if_pos (by omega)]
      simp only [laws_toKey.f, Option.bind_some]
      rw [if_pos (by omega), w64s i (by omega), Int.toNat_natCast, fill_set _ _ _ (by simpa using hi)]
      simp [toK, rd_T50])
    (by
      intro s hs
      subst hs
      refine ⟨0, 1, fun k _ => ?_⟩
      simp only [laws_toKeyS.l0]
      rw [if_neg (by omega)]
      have := fill_all (fun i => toK (l.getD i z50)) (List.replicate l.length z27)
      rw [List.length_replicate] at this
      rw [this, range_map])
  refine ⟨K, fun k hk' => ?_⟩
  simp only [laws_toKeyS.f]
  rw [if_pos (by omega), if_pos (by omega)]
  have e := hk k hk'
  simpa using e

theorem toKeySS_ev (l : List (List S50)) (hin : inKeySS l) : Ev (fun k => laws_toKeySS.f k l) (convKeySS l) := by
  have h := inKeySS_len hin
  have hl : ∀ i, i ≤ l.length → (fill (fun i => (l.getD i []).map toK) (List.replicate l.length ([] : List S27)) i).length = l.length := fun i hi => by rw [fill_length _ _ _ (by simpa using hi)]; simp
  obtain ⟨K, hk⟩ := evRange0 (σ := List (List S27)) l.length (fun k s i => laws_toKeySS.l0 k l s i) (fun i s => s = fill (fun i => (l.getD i []).map toK) (List.replicate l.length ([] : List S27)) i) (fun _ _ => convKeySS l) (List.replicate l.length ([] : List S27)) (fill_zero _ _).symm
    (by
      intro i s hi hs
      subst hs
      have h1 := hl i (by omega)
      have hr : rd_L2 l (i : Int) = l.getD i [] := by simp [rd_L2]
      obtain ⟨K, e⟩ := toKeyS_ev (l.getD i []) (inKeySS_at hin i hi)
      refine .inl ⟨_, rfl, rfl, K, 1, fun k hk => ?_⟩
      have e1 := e k hk
      simp only at e1
      simp only [laws_toKeySS.l0, hr, e1, Option.bind_some]
      rw [if_pos (by omega), if_pos (by omega), if_pos (by omega), w64s i (by omega), Int.toNat_natCast, fill_set _ _ _ (by simpa using hi) rfl])
    (by
      intro s hs
      subst hs
      refine ⟨0, 1, fun k _ => ?_⟩
      simp only [laws_toKeySS.l0]
      rw [if_neg (by omega)]
      have := fill_all (fun i => (l.getD i []).map toK) (List.replicate l.length ([] : List S27))
      rw [List.length_replicate] at this
      rw [this, range_map (fun x => x.map toK) l []]
      rfl)
  refine ⟨K, fun k hk' => ?_⟩
  simp only [laws_toKeySS.f]
  rw [if_pos (by omega), if_pos (by omega)]
  have e := hk k hk'
  simp only [Int.toNat_natCast]
  exact e

theorem toNode_ev (l : List (List S50)) (hin : inKeySS l) : Ev (fun k => laws_toNode.f k l) (convKeySS l) := by
  obtain ⟨K, e⟩ := toKeySS_ev l hin
  refine ⟨K, fun k hk => ?_⟩
  have e1 := e k hk
  simp only at e1
  simp only [laws_toNode.f, e1, Option.bind_some]

theorem eqKey_refl (x : S27) : laws_eqKey.f x.f0 x.f1 x.f2 x.f3 x.f4 x.f0 x.f1 x.f2 x.f3 x.f4 = some true := by simp [laws_eqKey.f]
theorem eqKey_same (a b c d e : Int) : laws_eqKey.f a b c d e a b c d e = some true := by simp [laws_eqKey.f]
theorem eqKeyS_ev (l : List S27) (ho : okKeyS l) : Ev (fun k => laws_eqKeyS.f k l l) true := by
  have h : l.length ≤ 4194304 := ho
  obtain ⟨K, hk⟩ := evRange0 (σ := Unit) l.length (fun k _ i => laws_eqKeyS.l0 k l l i) (fun _ _ => True) (fun _ _ => true) () trivial
    (by
      intro i _ hi _
      refine .inl ⟨(), trivial, rfl, 0, 1, fun k _ => ?_⟩
      simp only [laws_eqKeyS.l0]
      rw [if_pos (by omega), if_pos (by omega), if_pos (by omega), eqKey_refl, w64s i (by omega)]
      rfl)
    (by
      intro _ _
      refine ⟨0, 1, fun k _ => ?_⟩
      simp only [laws_eqKeyS.l0]
      rw [if_neg (by omega)])
  refine ⟨K, fun k hk' => ?_⟩
  simp only [laws_eqKeyS.f]
  rw [if_pos trivial]
  exact hk k hk'

theorem eqKeySS_ev (l : List (List S27)) (ho : okKeySS l) : Ev (fun k => laws_eqKeySS.f k l l) true := by
  have h := okKeySS_len ho
  obtain ⟨K, hk⟩ := evRange0 (σ := Unit) l.length (fun k _ i => laws_eqKeySS.l0 k l l i) (fun _ _ => True) (fun _ _ => true) () trivial
    (by
      intro i _ hi _
      have hr : rd_L4 l (i : Int) = l.getD i [] := by simp [rd_L4]
      obtain ⟨K, e⟩ := eqKeyS_ev (l.getD i []) (okKeySS_at ho i hi)
      refine .inl ⟨(), trivial, rfl, K, 1, fun k hk => ?_⟩
      have e1 := e k hk
      simp only at e1
      simp only [laws_eqKeySS.l0, hr, e1, Option.bind_some]
      rw [if_pos (by omega), if_pos (by omega), if_pos (by omega), if_pos trivial, w64s i (by omega)])
    (by
      intro _ _
      refine ⟨0, 1, fun k _ => ?_⟩
      simp only [laws_eqKeySS.l0]
      rw [if_neg (by omega)])
  refine ⟨K, fun k hk' => ?_⟩
  simp only [laws_eqKeySS.f]
  rw [if_pos trivial]
  exact hk k hk'

theorem eqNode_ev (l : List (List S27)) (ho : okKeySS l) : Ev (fun k => laws_eqNode.f k l l) true := by
  obtain ⟨K, e⟩ := eqKeySS_ev l ho
  refine ⟨K, fun k hk => ?_⟩
  have e1 := e k hk
  simp only at e1
  simp only [laws_eqNode.f, e1, Option.bind_some]
  rfl

theorem spec_l1In_f (a b c : Int) : spec_l1In.f a b c = some (decide (b ≤ a ∧ a ≤ c)) := by
  unfold spec_l1In.f
  by_cases h : a ≥ b
  · rw [if_pos h]; congr 1; rw [Bool.eq_iff_iff]; simp; omega
  · rw [if_neg h]; congr 1; rw [Bool.eq_iff_iff]; simp; omega

/-! A key: five numbers. -/
def keyOk5 (a b c d e : Int) : Bool := decide (0 ≤ a ∧ a ≤ 15) && (decide (1 ≤ b ∧ b ≤ 60) && (decide (0 ≤ c ∧ c ≤ 2) && if c = 1 then decide (0 ≤ d ∧ d ≤ 23) && decide (0 ≤ e ∧ e ≤ 999) else decide (d = 0) && decide (e = 0)))

theorem spec_KeyOk_ev (a b c d e : Int) : Ev (fun k => spec_KeyOk.f k a b c d e) (keyOk5 a b c d e) := by
  refine evSucc ⟨0, 1, fun k _ => ?_⟩
  simp only [spec_KeyOk.f, spec_l1In_f, Option.bind_some, spec_KeyOk.j0, keyOk5]
  cases h0 : decide (0 ≤ a ∧ a ≤ 15) <;> cases h1 : decide (1 ≤ b ∧ b ≤ 60) <;> cases h2 : decide (0 ≤ c ∧ c ≤ 2) <;> simp only [Bool.false_and, Bool.true_and, Bool.false_eq_true, if_true, if_false, Bool.not_true, Bool.not_false]
  by_cases h3 : c = 1
  · rw [if_pos h3, if_pos h3]
    cases h4 : decide (0 ≤ d ∧ d ≤ 23) <;> simp only [Bool.false_and, Bool.true_and, Bool.false_eq_true, if_true, if_false]
  · rw [if_neg h3, if_neg h3]
    by_cases h4 : d = 0
    · rw [if_pos h4]; simp [h4]; rw [Bool.eq_iff_iff]; simp
    · rw [if_neg h4]; simp [h4]

/-! What a set of keys is: the model of its functions. -/
def less (a b : S27) : Bool := decide (a.f0 < b.f0 ∨ a.f0 = b.f0 ∧ a.f1 < b.f1)
def same (a b : S27) : Bool := decide (a.f0 = b.f0 ∧ a.f1 = b.f1)
def putGo (k : S27) : List S27 → Bool → List S27
  | [], p => if p then [] else [k]
  | x :: xs, p => (if p || less x k then [] else [k]) ++ ((if same x k then [] else [x]) ++ putGo k xs (p || !less x k))
def setPut (l : List S27) (k : S27) : List S27 := putGo k l false
def mergeSets (a b : List S27) : List S27 := b.foldl setPut a
def dropNone (l : List S27) : List S27 := l.filter fun x => x.f2 != 0
theorem putGo_length (k : S27) : ∀ (l : List S27) (p : Bool), (putGo k l p).length ≤ l.length + 1
  | [], p => by cases p <;> simp [putGo]
  | x :: xs, p => by
    have ih := putGo_length k xs
    have ih1 : p = true → (putGo k xs true).length ≤ xs.length := fun _ => by
      clear ih
      induction xs with
      | nil => simp [putGo]
      | cons y ys ih => simp only [putGo, Bool.true_or, if_true, List.nil_append, List.length_append, List.length_cons]; split <;> simp <;> omega
    simp only [putGo, List.length_append, List.length_cons]
    cases p with
    | true => simp only [Bool.true_or, if_true, List.length_nil]; have := ih1 rfl; split <;> simp <;> omega
    | false =>
      cases hx : less x k with
      | true => simp only [Bool.false_or, if_true, Bool.not_true, List.length_nil]; have := ih false; split <;> simp <;> omega
      | false =>
        simp only [Bool.false_or, Bool.not_false, if_false, Bool.false_eq_true, List.length_cons, List.length_nil]
        have h2 : (putGo k xs true).length ≤ xs.length := by
          clear ih ih1
          induction xs with
          | nil => simp [putGo]
          | cons y ys ih => simp only [putGo, Bool.true_or, if_true, List.nil_append, List.length_append, List.length_cons]; split <;> simp <;> omega
        split <;> simp <;> omega
theorem setPut_length (l : List S27) (k : S27) : (setPut l k).length ≤ l.length + 1 := putGo_length k l false
theorem mergeSets_length (a b : List S27) : (mergeSets a b).length ≤ a.length + b.length := by
  unfold mergeSets
  induction b generalizing a with
  | nil => simp
  | cons x xs ih => simp only [List.foldl_cons, List.length_cons]; have := ih (setPut a x); have := setPut_length a x; omega

theorem spec_LessKey_f (a b : S27) : spec_LessKey.f a.f0 a.f1 a.f2 a.f3 a.f4 b.f0 b.f1 b.f2 b.f3 b.f4 = some (less a b) := by
  unfold spec_LessKey.f less
  split
  · simp [*]
  · simp [*]

def keyOkB (x : S27) : Bool := keyOk5 x.f0 x.f1 x.f2 x.f3 x.f4
def risesAt (l : List S27) (j : Nat) : Bool := less (l.getD (j - 1) z27) (l.getD j z27)
def setOkB (l : List S27) : Bool := allFrom (fun j => keyOkB (l.getD j z27) && (j == 0 || risesAt l j)) l.length 0 && decide (l.length ≤ 60)

theorem spec_l4Rises_ev (l : List S27) (h : l.length ≤ 4194304) : Ev (fun k => spec_l4Rises.f k l) (allFrom (risesAt l) l.length 1) := by
  by_cases h0 : l.length = 0
  · refine evSucc ⟨0, 1, fun k _ => ?_⟩
    simp only [spec_l4Rises.f, spec_l4Rises.l0]
    rw [if_neg (by omega)]
    simp [allFrom, h0]
  have := evAll l.length (fun k i => spec_l4Rises.l0 k l (if i = 0 then 1 else i)) (fun j => j == 0 || risesAt l j) true
    (by
      intro i hi
      by_cases hz : i = 0
      · subst hz
        exact ⟨0, 0, fun k _ => by simp⟩
      have hr : rd_T27 l (i : Int) = l.getD i z27 := by simp [rd_T27]
      have hw := w64s i (by omega)
      have hw1 : wrap64 ((i : Int) - 1) = ((i - 1 : Nat) : Int) := by rw [w64 (by omega) (by omega)]; omega
      have hr1 : rd_T27 l ((i - 1 : Nat) : Int) = l.getD (i - 1) z27 := by simp [rd_T27]
      refine ⟨0, 1, fun k _ => ?_⟩
      rw [if_neg (show ¬ (i : Int) = 0 by omega), if_neg (show ¬ ((i + 1 : Nat) : Int) = 0 by omega)]
      simp only [spec_l4Rises.l0]
      rw [if_pos (by omega), hw1, if_pos (by omega), if_pos (by omega), if_pos (by omega), hr, hr1, spec_LessKey_f, hw]
      simp only [Option.bind_some, beq_eq_false_iff_ne.mpr hz, Bool.false_or]
      rfl)
    (by
      refine ⟨0, 1, fun k _ => ?_⟩
      rw [if_neg (show ¬ (l.length : Int) = 0 by omega)]
      simp only [spec_l4Rises.l0]
      rw [if_neg (by omega)]) 1 (by omega)
  obtain ⟨K, hk⟩ := this
  refine ⟨K, fun k hk' => ?_⟩
  have e := hk k hk'
  simp only [Bool.and_true] at e
  have e2 : allFrom (fun j => j == 0 || risesAt l j) l.length 1 = allFrom (risesAt l) l.length 1 := by
    rw [Bool.eq_iff_iff, allFrom_iff, allFrom_iff]
    constructor
    · intro hh j h1 h2; have := hh j h1 h2; simp only [Bool.or_eq_true, beq_iff_eq] at this; rcases this with h | h; omega; exact h
    · intro hh j h1 h2; simp [hh j h1 h2]
  rw [e2] at e
  rw [← e]
  rfl

theorem spec_SetOk_ev (l : List S27) (h : l.length ≤ 4194304) : Ev (fun k => spec_SetOk.f k l) (setOkB l) := by
  obtain ⟨K0, e0⟩ := spec_l4Rises_ev l h
  have := evAll l.length (fun k i => spec_SetOk.l0 k l i) (fun j => keyOkB (l.getD j z27)) (allFrom (risesAt l) l.length 1 && decide (l.length ≤ 60))
    (by
      intro i hi
      have hr : rd_T27 l (i : Int) = l.getD i z27 := by simp [rd_T27]
      obtain ⟨K, e⟩ := spec_KeyOk_ev (l.getD i z27).f0 (l.getD i z27).f1 (l.getD i z27).f2 (l.getD i z27).f3 (l.getD i z27).f4
      refine ⟨K, 1, fun k hk => ?_⟩
      have e1 : spec_KeyOk.f k (l.getD i z27).f0 (l.getD i z27).f1 (l.getD i z27).f2 (l.getD i z27).f3 (l.getD i z27).f4 = some (keyOkB (l.getD i z27)) := e k hk
      simp only [spec_SetOk.l0, hr, e1, Option.bind_some]
      rw [if_pos (by omega), if_pos (by omega), w64s i (by omega)])
    (by
      refine ⟨K0, 1, fun k hk => ?_⟩
      have e1 : spec_l4Rises.f k l = some (allFrom (risesAt l) l.length 1) := e0 k hk
      simp only [spec_SetOk.l0, e1, Option.bind_some]
      rw [if_neg (by omega)]
      have e2 : decide ((l.length : Int) ≤ 60) = decide (l.length ≤ 60) := by rw [Bool.eq_iff_iff]; simp; omega
      cases allFrom (risesAt l) l.length 1 <;> simp [e2]) 0 (Nat.zero_le _)
  obtain ⟨K, hk⟩ := this
  refine ⟨K, fun k hk' => ?_⟩
  have e := hk k hk'
  simp only [Int.natCast_zero] at e
  show spec_SetOk.l0 k l 0 = _
  have e' : spec_SetOk.l0 k l 0 = some (allFrom (fun j => keyOkB (l.getD j z27)) l.length 0 && (allFrom (risesAt l) l.length 1 && decide (l.length ≤ 60))) := e
  rw [e', setOkB, ← Bool.and_assoc]
  congr 2
  rw [Bool.eq_iff_iff, Bool.and_eq_true, allFrom_iff, allFrom_iff, allFrom_iff]
  constructor
  · rintro ⟨h1, h2⟩ j hj hlt
    rw [h1 j hj hlt, Bool.true_and]
    by_cases hz : j = 0
    · simp [hz]
    · rw [h2 j (by omega) hlt, Bool.or_true]
  · intro h
    refine ⟨fun j hj hlt => ?_, fun j hj hlt => ?_⟩
    · have := h j hj hlt; simp only [Bool.and_eq_true] at this; exact this.1
    · have := h j (by omega) hlt; simp only [Bool.and_eq_true, Bool.or_eq_true, beq_iff_eq] at this; rcases this.2 with h | h; omega; exact h

def countK : List (List S27) → Nat
  | [] => 0
  | l :: ls => l.length + countK ls
def nodeOkB (ls : List (List S27)) : Bool := allFrom (fun i => setOkB (ls.getD i []) && !decide ((ls.getD i []).length = 0)) ls.length 0 && (decide (ls.length ≤ 3) && decide (countK ls ≤ 8))
theorem countK_bulk : ∀ ls : List (List S27), countK ls ≤ bulkKeySS ls
  | [] => Nat.le_refl _
  | l :: ls => by have := countK_bulk ls; simp only [countK, bulkKeySS]; omega
theorem countK_drop (ls : List (List S27)) (i : Nat) (h : i < ls.length) : countK (ls.drop i) = (ls.getD i []).length + countK (ls.drop (i + 1)) := by
  rw [drop_getD ls i [] h]; rfl
theorem countK_le : ∀ (ls : List (List S27)) (i : Nat), countK (ls.drop i) ≤ countK ls
  | [], i => by simp
  | l :: ls, 0 => by simp
  | l :: ls, i + 1 => by have := countK_le ls i; simp only [List.drop_succ_cons, countK]; omega

theorem spec_l5Count_ev (ls : List (List S27)) (ho : okKeySS ls) : Ev (fun k => spec_l5Count.f k ls) ((countK ls : Nat) : Int) := by
  have h := okKeySS_len ho
  have hb := countK_bulk ls
  unfold okKeySS at ho
  obtain ⟨K, hk⟩ := evRange0 (σ := Int) ls.length (fun k s i => spec_l5Count.l0 k s i ls) (fun i s => s + (countK (ls.drop i) : Nat) = (countK ls : Nat) ∧ 0 ≤ s) (fun _ _ => ((countK ls : Nat) : Int)) 0 (by simp)
    (by
      rintro i s hi ⟨hs, h0⟩
      have hr : rd_L4 ls (i : Int) = ls.getD i [] := by simp [rd_L4]
      rw [countK_drop ls i hi] at hs
      refine .inl ⟨s + ((ls.getD i []).length : Int), ⟨by omega, by omega⟩, rfl, 0, 1, fun k _ => ?_⟩
      simp only [spec_l5Count.l0, hr]
      rw [if_pos (by omega), if_pos (by omega), w64 (by omega) (by omega), w64s i (by omega)])
    (by
      rintro s ⟨hs, h0⟩
      refine ⟨0, 1, fun k _ => ?_⟩
      simp only [spec_l5Count.l0]
      rw [if_neg (by omega)]
      simp only [List.drop_length, countK] at hs
      congr 1; omega)
  exact ⟨K, fun k hk' => hk k hk'⟩

theorem spec_NodeOk_ev (ls : List (List S27)) (ho : okKeySS ls) : Ev (fun k => spec_NodeOk.f k ls) (nodeOkB ls) := by
  have h := okKeySS_len ho
  obtain ⟨K0, e0⟩ := spec_l5Count_ev ls ho
  have := evAll ls.length (fun k i => spec_NodeOk.l0 k i ls) (fun i => setOkB (ls.getD i []) && !decide ((ls.getD i []).length = 0)) (decide (ls.length ≤ 3) && decide (countK ls ≤ 8))
    (by
      intro i hi
      have hr : rd_L4 ls (i : Int) = ls.getD i [] := by simp [rd_L4]
      obtain ⟨K, e⟩ := spec_SetOk_ev (ls.getD i []) (okKeySS_at ho i hi)
      refine ⟨K, 1, fun k hk => ?_⟩
      have e1 := e k hk
      simp only at e1
      simp only [spec_NodeOk.l0, hr, e1, Option.bind_some]
      rw [if_pos (by omega), if_pos (by omega), w64s i (by omega)]
      generalize ls.getD i [] = y at *
      cases hq : setOkB y with
      | false => simp only [Bool.false_and, Bool.false_eq_true, if_false]
      | true =>
        simp only [Bool.true_and, if_true]
        by_cases c : y.length = 0
        · rw [if_pos (by omega)]; simp [c]
        · rw [if_neg (by omega)]; simp [c])
    (by
      refine ⟨K0, 1, fun k hk => ?_⟩
      have e1 := e0 k hk
      simp only at e1
      simp only [spec_NodeOk.l0, e1, Option.bind_some]
      rw [if_neg (by omega)]
      by_cases c : ls.length ≤ 3
      · rw [if_pos (by omega)]
        congr 1
        rw [Bool.eq_iff_iff]; simp [c]; omega
      · rw [if_neg (by omega)]; simp [c]) 0 (Nat.zero_le _)
  obtain ⟨K, hk⟩ := this
  exact ⟨K, fun k hk' => hk k hk'⟩

theorem impl_within_f (a b c : Int) : impl_within.f a b c = some (decide (b ≤ a ∧ a ≤ c)) := by
  unfold impl_within.f
  by_cases h : a ≥ b
  · rw [if_pos h]; congr 1; rw [Bool.eq_iff_iff]; simp; omega
  · rw [if_neg h]; congr 1; rw [Bool.eq_iff_iff]; simp; omega

theorem impl_KeyOk_ev (a b c d e : Int) : Ev (fun k => impl_KeyOk.f k a b c d e) (keyOk5 a b c d e) := by
  refine evSucc ⟨0, 1, fun k _ => ?_⟩
  simp only [impl_KeyOk.f, impl_within_f, Option.bind_some, impl_KeyOk.j0, keyOk5]
  cases h0 : decide (0 ≤ a ∧ a ≤ 15) <;> cases h1 : decide (1 ≤ b ∧ b ≤ 60) <;> cases h2 : decide (0 ≤ c ∧ c ≤ 2) <;> simp only [Bool.false_and, Bool.true_and, Bool.false_eq_true, if_true, if_false, Bool.not_true, Bool.not_false]
  by_cases h3 : c = 1
  · rw [if_pos h3, if_pos h3]
    cases h4 : decide (0 ≤ d ∧ d ≤ 23) <;> simp only [Bool.false_and, Bool.true_and, Bool.false_eq_true, if_true, if_false]
  · rw [if_neg h3, if_neg h3]
    by_cases h4 : d = 0
    · rw [if_pos h4]; simp [h4]; rw [Bool.eq_iff_iff]; simp
    · rw [if_neg h4]; simp [h4]

theorem impl_LessKey_f (a b : S27) : impl_LessKey.f a.f0 a.f1 a.f2 a.f3 a.f4 b.f0 b.f1 b.f2 b.f3 b.f4 = some (less a b) := by
  unfold impl_LessKey.f less
  split
  · simp [*]
  · split
    · simp [*]
    · simp [*]

theorem impl_SetOk_ev (l : List S27) (h : l.length ≤ 4194304) : Ev (fun k => impl_SetOk.f k l) (setOkB l) := by
  have := evAll l.length (fun k i => impl_SetOk.l0 k l l (l.length : Int) i) (fun j => keyOkB (l.getD j z27) && (j == 0 || risesAt l j)) (decide (l.length ≤ 60))
    (by
      intro i hi
      have hr : rd_T27 l (i : Int) = l.getD i z27 := by simp [rd_T27]
      obtain ⟨K, e⟩ := impl_KeyOk_ev (l.getD i z27).f0 (l.getD i z27).f1 (l.getD i z27).f2 (l.getD i z27).f3 (l.getD i z27).f4
      refine ⟨K, 1, fun k hk => ?_⟩
      have e1 : impl_KeyOk.f k (l.getD i z27).f0 (l.getD i z27).f1 (l.getD i z27).f2 (l.getD i z27).f3 (l.getD i z27).f4 = some (keyOkB (l.getD i z27)) := e k hk
      have hra : risesAt l i = less (l.getD (i - 1) z27) (l.getD i z27) := rfl
      simp only [impl_SetOk.l0, hr, e1, Option.bind_some]
      rw [if_pos (by omega), if_pos (by omega), if_pos (by omega)]
      have hw := w64s i (by omega)
      generalize l.getD i z27 = y at *
      cases hq : keyOkB y with
      | false => simp only [Bool.false_and, Bool.false_eq_true, if_false]
      | true =>
        simp only [Bool.true_and, if_true]
        by_cases hz : i = 0
        · subst hz; rw [if_neg (by omega), hw]; rfl
        · have hw1 : wrap64 ((i : Int) - 1) = ((i - 1 : Nat) : Int) := by rw [w64 (by omega) (by omega)]; omega
          have hr1 : rd_T27 l ((i - 1 : Nat) : Int) = l.getD (i - 1) z27 := by simp [rd_T27]
          rw [if_pos (by omega), hw1, if_pos (by omega), if_pos (by omega), hr1, impl_LessKey_f, hw, hra]
          simp only [Option.bind_some, beq_iff_eq, hz, Bool.false_or, beq_eq_false_iff_ne.mpr hz])
    (by
      refine ⟨0, 1, fun k _ => ?_⟩
      simp only [impl_SetOk.l0]
      rw [if_neg (by omega)]
      congr 1; rw [Bool.eq_iff_iff]; simp; omega) 0 (Nat.zero_le _)
  obtain ⟨K, hk⟩ := this
  exact ⟨K, fun k hk' => hk k hk'⟩

theorem impl_NodeOk_ev (ls : List (List S27)) (ho : okKeySS ls) : Ev (fun k => impl_NodeOk.f k ls) (nodeOkB ls) := by
  have h := okKeySS_len ho
  have hb := countK_bulk ls
  have hbb : bulkKeySS ls ≤ 4194304 := ho
  obtain ⟨K, hk⟩ := evRange0 (σ := Int) ls.length (fun k s i => impl_NodeOk.l0 k s ls (ls.length : Int) i ls) (fun i s => s + (countK (ls.drop i) : Nat) = (countK ls : Nat) ∧ 0 ≤ s)
    (fun i _ => allFrom (fun i => setOkB (ls.getD i []) && !decide ((ls.getD i []).length = 0)) ls.length i && (decide (ls.length ≤ 3) && decide (countK ls ≤ 8))) 0 (by simp)
    (by
      rintro i s hi ⟨hs, h0⟩
      have hr : rd_L4 ls (i : Int) = ls.getD i [] := by simp [rd_L4]
      obtain ⟨K, e⟩ := impl_SetOk_ev (ls.getD i []) (okKeySS_at ho i hi)
      rw [countK_drop ls i hi] at hs
      cases hq : setOkB (ls.getD i []) && !decide ((ls.getD i []).length = 0) with
      | false =>
        refine .inr ⟨K, 1, fun k hk => ?_⟩
        have e1 := e k hk
        simp only at e1
        simp only [impl_NodeOk.l0, hr, e1, Option.bind_some]
        rw [if_pos (by omega), if_pos (by omega), if_pos (by omega), allFrom_lt hi, hq, Bool.false_and, Bool.false_and]
        generalize ls.getD i [] = y at *
        cases hq2 : setOkB y with
        | false => simp only [Bool.false_eq_true, if_false]
        | true =>
          rw [hq2] at hq
          simp only [Bool.true_and, Bool.not_eq_false', decide_eq_true_eq] at hq
          simp only [if_true]
          rw [if_pos (by omega)]
      | true =>
        refine .inl ⟨s + ((ls.getD i []).length : Int), ⟨by omega, by omega⟩, by rw [allFrom_lt hi, hq, Bool.true_and], K, 1, fun k hk => ?_⟩
        have e1 := e k hk
        simp only at e1
        simp only [impl_NodeOk.l0, hr, e1, Option.bind_some]
        rw [if_pos (by omega), if_pos (by omega), if_pos (by omega), w64s i (by omega)]
        generalize ls.getD i [] = y at *
        simp only [Bool.and_eq_true, Bool.not_eq_true', decide_eq_false_iff_not] at hq
        rw [if_pos hq.1, if_neg (by omega), w64 (by omega) (by omega)])
    (by
      rintro s ⟨hs, h0⟩
      refine ⟨0, 1, fun k _ => ?_⟩
      simp only [List.drop_length, countK] at hs
      simp only [impl_NodeOk.l0, allFrom_end, Bool.true_and]
      rw [if_neg (by omega)]
      by_cases c : ls.length ≤ 3
      · rw [if_pos (by omega)]
        congr 1
        rw [Bool.eq_iff_iff]; simp [c]; omega
      · rw [if_neg (by omega)]; simp [c])
  exact ⟨K, fun k hk' => hk k hk'⟩

theorem FnExactNodeOk (l0_0 : List (List (S50))) (h0 : (l0_0.length ≤ 9223372036854775807 ∧ ∀ y0 ∈ l0_0, (y0.length ≤ 9223372036854775807 ∧ ∀ y1 ∈ y0, ((Lit.int .i64 y1.f0).wf = true ∧ (Lit.int .i64 y1.f1).wf = true ∧ (Lit.int .i64 y1.f2).wf = true ∧ (Lit.int .i64 y1.f3).wf = true ∧ (Lit.int .i64 y1.f4).wf = true)))) : ∃ k, laws_FnExactNodeOk.f k l0_0 = some true := by
  apply Ev.rounds
  unfold laws_FnExactNodeOk.f
  have u0_0 := sumKeySS_pos l0_0
  by_cases c0 : 1048576 < sumKeySS l0_0
  · refine Ev.bind (szNode_big l0_0 _ ⟨h0.1, fun x hx => (h0.2 x hx).1⟩ (by omega) (by omega) c0) ?_
    simp only [if_pos (show (-1 : Int) < 0 by decide)]; exact Ev.now _
  refine Ev.bind (szNode_fit l0_0 _ ⟨h0.1, fun x hx => (h0.2 x hx).1⟩ (by omega) (by omega) c0) ?_
  simp only [if_neg (show ¬ (1048576 - sumKeySS l0_0 : Int) < 0 by omega)]
  have i0 : inKeySS l0_0 := in_of_sumKeySS (by omega)
  have o0_0 : okKeySS (convKeySS l0_0) := ok_of_inKeySS i0
  repeat' (first
    | exact Ev.now _
    | (refine Ev.bind (toNode_ev _ (by assumption)) ?_)
    | (refine Ev.bind (eqNode_ev _ (by assumption)) ?_)
    | (refine Ev.bind (impl_NodeOk_ev _ (by assumption)) ?_)
    | (refine Ev.bind (spec_NodeOk_ev _ (by assumption)) ?_)
    | (simp only [Option.bind_some, ↓reduceIte, bne_self_eq_false, Bool.false_eq_true, Bool.not_true, eq_self]))

end Go.Proofs.Ythpfihklkcnckaa.Pure
