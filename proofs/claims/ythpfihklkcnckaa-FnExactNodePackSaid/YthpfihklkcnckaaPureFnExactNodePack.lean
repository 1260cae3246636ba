/- What the functions that the law reaches answer, as plain functions of numbers and lists; each says its conditions itself. -/
import Derived.Test.YthpfihklkcnckaaMFnExactNodePackx0
import Derived.Test.YthpfihklkcnckaaMFnExactNodePackx1
import Derived.Test.YthpfihklkcnckaaMFnExactNodePackx2
import Derived.Test.YthpfihklkcnckaaMFnExactNodePackx3
import Derived.Test.YthpfihklkcnckaaMFnExactNodePackx4
import Derived.Test.YthpfihklkcnckaaMFnExactNodePackx5
import Derived.Test.YthpfihklkcnckaaMFnExactNodePackx6
import Derived.Test.YthpfihklkcnckaaCore
import Derived.Test.YthpfihklkcnckaaMarks
namespace Go.Proofs.Ythpfihklkcnckaa.Pure
open Go.RowKit Go.Proofs.Ythpfihklkcnckaa.PFnExactNodePack Go.Proofs.Ythpfihklkcnckaa.Core Go.Proofs.YthpfihklkcnckaaW.PrintWords Go.Proofs.YthpfihklkcnckaaW.PrintLast Go.Proofs.YthpfihklkcnckaaW.PrintMore
set_option linter.unusedSimpArgs false
set_option linter.unusedVariables false

def toK (x : S50) : S27 := ⟨x.f0, x.f1, x.f2, x.f3, x.f4⟩

def okKeyS (l : List S27) : Prop := l.length ≤ 4194304
def cntKeyS (l : List S27) : Int := 5 * l.length
theorem cntKeyS_nn {l : List S27} (h : okKeyS l) : 0 ≤ cntKeyS l ∧ cntKeyS l ≤ 1073741824 := by unfold okKeyS at h; unfold cntKeyS; omega
def inKeyS (l : List S50) : Prop := l.length ≤ 1048576
def sumKeyS (l : List S50) : Int := l.length
theorem sumKeyS_nn (l : List S50) : 0 ≤ sumKeyS l := by unfold sumKeyS; omega
theorem in_of_sumKeyS {l : List S50} (h : sumKeyS l ≤ 1048576) : inKeyS l := by unfold sumKeyS at h; unfold inKeyS; omega
theorem ok_of_inKeyS {l : List S50} (h : inKeyS l) : okKeyS (l.map toK) := by unfold inKeyS at h; unfold okKeyS; rw [List.length_map]; omega
def goodK (x : S50) : Prop := (Lit.int .i64 x.f0).wf = true ∧ (Lit.int .i64 x.f1).wf = true ∧ (Lit.int .i64 x.f2).wf = true ∧ (Lit.int .i64 x.f3).wf = true ∧ (Lit.int .i64 x.f4).wf = true

theorem szKeyS_f (l : List S50) (a : Int) (hl : l.length ≤ 9223372036854775807) (h0 : 0 ≤ a) (h1 : a ≤ 1048576) : laws_szKeyS.f l a = some (if a < sumKeyS l then -1 else a - sumKeyS l) := by
  unfold laws_szKeyS.f sumKeyS
  rw [w64 (by omega) (by omega)]
  by_cases h : a < (l.length : Int)
  · rw [if_pos (by omega), if_pos h]
  · rw [if_neg (by omega), if_neg h]
theorem szKeyS_big (l : List S50) (a : Int) (hl : l.length ≤ 9223372036854775807) (h0 : 0 ≤ a) (h1 : a ≤ 1048576) (h : a < sumKeyS l) : Ev (fun _ => laws_szKeyS.f l a) (-1) := evOf fun _ => by rw [szKeyS_f l a hl h0 h1, if_pos h]
theorem szKeyS_fit (l : List S50) (a : Int) (hl : l.length ≤ 9223372036854775807) (h0 : 0 ≤ a) (h1 : a ≤ 1048576) (h : ¬ a < sumKeyS l) : Ev (fun _ => laws_szKeyS.f l a) (a - sumKeyS l) := evOf fun _ => by rw [szKeyS_f l a hl h0 h1, if_neg h]

/-! A slice of them. -/
def convKeySS (l : List (List S50)) : List (List S27) := l.map fun x => x.map toK
def sumKeySS : List (List S50) → Int
  | [] => 0
  | x :: xs => 1 + sumKeyS x + sumKeySS xs
theorem sumKeySS_nn : ∀ l : List (List S50), (l.length : Int) ≤ sumKeySS l
  | [] => by simp [sumKeySS]
  | x :: xs => by
    have := sumKeySS_nn xs
    have := sumKeyS_nn x
    simp only [sumKeySS, List.length_cons]
    omega
theorem sumKeySS_pos (l : List (List S50)) : 0 ≤ sumKeySS l := by have := sumKeySS_nn l; omega
theorem sumKeySS_at : ∀ (l : List (List S50)) (i : Nat), i < l.length → 1 + sumKeyS (l.getD i []) + sumKeySS (l.drop (i + 1)) = sumKeySS (l.drop i) := by
  intro l i hi
  rw [drop_getD l i [] hi]
  rfl
theorem sumKeySS_drop : ∀ (l : List (List S50)) (i : Nat), sumKeySS (l.drop i) ≤ sumKeySS l
  | [], i => by simp
  | x :: xs, 0 => by simp
  | x :: xs, i + 1 => by
    have := sumKeySS_drop xs i
    have := sumKeyS_nn x
    simp only [List.drop_succ_cons, sumKeySS]
    omega
def inKeySS (l : List (List S50)) : Prop := sumKeySS l ≤ 1048576
theorem in_of_sumKeySS {l : List (List S50)} (h : sumKeySS l ≤ 1048576) : inKeySS l := h
theorem inKeySS_len {l : List (List S50)} (h : inKeySS l) : l.length ≤ 1048576 := by have := sumKeySS_nn l; unfold inKeySS at h; omega
theorem inKeySS_at {l : List (List S50)} (h : inKeySS l) (i : Nat) (hi : i < l.length) : inKeyS (l.getD i []) := by
  have h1 := sumKeySS_at l i hi
  have h2 := sumKeySS_drop l i
  have h3 := sumKeySS_nn (l.drop (i + 1))
  unfold inKeySS at h
  exact in_of_sumKeyS (by omega)
/-- What the impl's side holds, all in all. -/
def bulkKeySS : List (List S27) → Nat
  | [] => 0
  | x :: xs => 1 + x.length + bulkKeySS xs
def okKeySS (l : List (List S27)) : Prop := bulkKeySS l ≤ 4194304
theorem bulkKeySS_len : ∀ l : List (List S27), l.length ≤ bulkKeySS l
  | [] => by simp [bulkKeySS]
  | x :: xs => by have := bulkKeySS_len xs; simp only [bulkKeySS, List.length_cons]; omega
theorem bulkKeySS_at : ∀ (l : List (List S27)) (i : Nat), i < l.length → (l.getD i []).length ≤ bulkKeySS l
  | x :: xs, 0, _ => by simp only [bulkKeySS, List.getD_cons_zero]; omega
  | x :: xs, i + 1, h => by
    have := bulkKeySS_at xs i (by simpa using h)
    simp only [bulkKeySS, List.getD_cons_succ]; omega
theorem okKeySS_at {l : List (List S27)} (h : okKeySS l) (i : Nat) (hi : i < l.length) : okKeyS (l.getD i []) := by
  have h1 := bulkKeySS_at l i hi
  unfold okKeySS at h
  show (l.getD i []).length ≤ 4194304
  omega
theorem okKeySS_len {l : List (List S27)} (h : okKeySS l) : l.length ≤ 4194304 := by have := bulkKeySS_len l; unfold okKeySS at h; omega
theorem bulk_convKeySS : ∀ l : List (List S50), (bulkKeySS (convKeySS l) : Int) = sumKeySS l
  | [] => rfl
  | x :: xs => by
    have h1 := bulk_convKeySS xs
    have h2 : (((x.map toK).length : Nat) : Int) = sumKeyS x := by rw [List.length_map]; rfl
    (try simp only at h2)
    simp only [convKeySS] at h1
    simp only [convKeySS, List.map_cons, bulkKeySS, sumKeySS]
    omega
theorem ok_of_inKeySS {l : List (List S50)} (h : inKeySS l) : okKeySS (convKeySS l) := by
  have := bulk_convKeySS l
  unfold inKeySS at h
  unfold okKeySS
  omega

def goodKeySS (l : List (List S50)) : Prop := l.length ≤ 9223372036854775807 ∧ ∀ x ∈ l, x.length ≤ 9223372036854775807
theorem szKeySS_l0 (l : List (List S50)) (hg : goodKeySS l) : ∀ (d i : Nat) (s : Int), l.length - i = d → i ≤ l.length → 0 ≤ s → s ≤ 1048576 → l.length ≤ 1048576 → Ev (fun k => laws_szKeySS.l0 k l s (i : Int)) (if s < sumKeySS (l.drop i) - ((l.length : Int) - i) then -1 else s - (sumKeySS (l.drop i) - ((l.length : Int) - i))) := by
  intro d
  induction d with
  | zero =>
    intro i s hd hi h0 h1 hl
    obtain rfl : i = l.length := by omega
    refine evSucc ⟨0, 1, fun k _ => ?_⟩
    simp only [laws_szKeySS.l0]
    rw [if_neg (by omega), List.drop_length]
    rw [show sumKeySS [] = 0 from rfl, if_neg (by omega)]
    congr 1; omega
  | succ d ih =>
    intro i s hd hi h0 h1 hl
    have hlt : i < l.length := by omega
    have hs := sumKeySS_at l i hlt
    have hn := sumKeySS_nn (l.drop (i + 1))
    rw [List.length_drop] at hn
    have hr : rd_L2 l (i : Int) = l.getD i [] := by simp [rd_L2]
    have hgx := hg.2 _ (getD_mem l i [] hlt)
    generalize l.getD i [] = y at *
    have hy := sumKeyS_nn y
    by_cases c : s < sumKeyS y
    · obtain ⟨K, e⟩ := szKeyS_big y s hgx h0 h1 c
      refine evSucc ⟨K, 1, fun k hk => ?_⟩
      have e1 := e k hk
      simp only at e1
      simp only [laws_szKeySS.l0, hr, e1, Option.bind_some]
      rw [if_pos (by omega), if_pos (by omega), if_pos (by decide), if_pos (by omega)]
    · obtain ⟨K, e⟩ := szKeyS_fit y s hgx h0 h1 c
      obtain ⟨K2, e2⟩ := ih (i + 1) (s - sumKeyS y) (by omega) (by omega) (by omega) (by omega) hl
      refine evSucc ⟨K + K2, 1, fun k hk => ?_⟩
      have e1 := e k (by omega)
      have e3 := e2 k (by omega)
      simp only at e1 e3
      simp only [laws_szKeySS.l0, hr, e1, Option.bind_some]
      rw [if_pos (by omega), if_pos (by omega), if_neg (by omega), w64s i (by omega), e3]
      have hc : ((i + 1 : Nat) : Int) = (i : Int) + 1 := by omega
      rw [hc]
      by_cases c2 : s - sumKeyS y < sumKeySS (l.drop (i + 1)) - ((l.length : Int) - ((i : Int) + 1))
      · rw [if_pos c2, if_pos (by omega)]
      · rw [if_neg c2, if_neg (by omega)]; congr 1; omega
theorem szKeySS_big (l : List (List S50)) (a : Int) (hg : goodKeySS l) (h0 : 0 ≤ a) (h1 : a ≤ 1048576) (h : a < sumKeySS l) : Ev (fun k => laws_szKeySS.f k l a) (-1) := by
  have hn := hg.1
  by_cases c : a < l.length
  · refine evOf fun k => ?_
    simp only [laws_szKeySS.f]
    rw [w64 (by omega) (by omega), if_pos (by omega)]
  · obtain ⟨K, e⟩ := szKeySS_l0 l hg _ 0 (a - l.length) rfl (Nat.zero_le _) (by omega) (by omega) (by omega)
    refine ⟨K, fun k hk => ?_⟩
    have e1 := e k hk
    simp only [laws_szKeySS.f]
    rw [w64 (by omega) (by omega), if_neg (by omega)]
    simp only [List.drop_zero, Int.natCast_zero] at e1
    rw [if_pos (by omega)] at e1
    exact e1
theorem szKeySS_fit (l : List (List S50)) (a : Int) (hg : goodKeySS l) (h0 : 0 ≤ a) (h1 : a ≤ 1048576) (h : ¬ a < sumKeySS l) : Ev (fun k => laws_szKeySS.f k l a) (a - sumKeySS l) := by
  have hn := sumKeySS_nn l
  obtain ⟨K, e⟩ := szKeySS_l0 l hg _ 0 (a - l.length) rfl (Nat.zero_le _) (by omega) (by omega) (by omega)
  refine ⟨K, fun k hk => ?_⟩
  have e1 := e k hk
  simp only [laws_szKeySS.f]
  rw [w64 (by omega) (by omega), if_neg (by omega)]
  simp only [List.drop_zero, Int.natCast_zero] at e1
  rw [if_neg (by omega)] at e1
  rw [show a - sumKeySS l = a - ↑l.length - (sumKeySS l - (↑l.length - 0)) by omega]
  exact e1

theorem szNode_big (l : List (List S50)) (a : Int) (hg : goodKeySS l) (h0 : 0 ≤ a) (h1 : a ≤ 1048576) (h : a < sumKeySS l) : Ev (fun k => laws_szNode.f k l a) (-1) := by
  obtain ⟨K, e⟩ := szKeySS_big l a hg h0 h1 h
  refine ⟨K, fun k hk => ?_⟩
  have e1 := e k hk
  simp only at e1
  simp only [laws_szNode.f, e1, Option.bind_some]
  rfl
theorem szNode_fit (l : List (List S50)) (a : Int) (hg : goodKeySS l) (h0 : 0 ≤ a) (h1 : a ≤ 1048576) (h : ¬ a < sumKeySS l) : Ev (fun k => laws_szNode.f k l a) (a - sumKeySS l) := by
  obtain ⟨K, e⟩ := szKeySS_fit l a hg h0 h1 h
  refine ⟨K, fun k hk => ?_⟩
  have e1 := e k hk
  simp only at e1
  simp only [laws_szNode.f, e1, Option.bind_some]
  rw [if_neg (by omega)]

theorem toKeyS_ev (l : List S50) (hi : inKeyS l) : Ev (fun k => laws_toKeyS.f k l) (l.map toK) := by
  have h : l.length ≤ 1048576 := hi
  have hl : ∀ i, i ≤ l.length → (fill (fun i => toK (l.getD i z50)) (List.replicate l.length z27) i).length = l.length := fun i hi => by rw [fill_length _ _ _ (by simpa using hi)]; simp
  obtain ⟨K, hk⟩ := evRange0 (σ := List S27) l.length (fun k s i => laws_toKeyS.l0 k l s i) (fun i s => s = fill (fun i => toK (l.getD i z50)) (List.replicate l.length z27) i) (fun _ _ => l.map toK) (List.replicate l.length z27) (fill_zero _ _).symm
    (by
      intro i s hi hs
      subst hs
      refine .inl ⟨_, rfl, rfl, 0, 1, fun k _ => ?_⟩
      have h1 := hl i (by omega)
      simp only [laws_toKeyS.l0]
      rw [if_pos (by omega), if_pos (by omega)]
      simp only [laws_toKey.f, Option.bind_some]
      rw [if_pos (by omega), w64s i (by omega), Int.toNat_natCast, fill_set _ _ _ (by simpa using hi)]
      simp [toK, rd_T50])
    (by
      intro s hs
      subst hs
      refine ⟨0, 1, fun k _ => ?_⟩
      simp only [laws_toKeyS.l0]
      rw [if_neg (by omega)]
      have := fill_all (fun i => toK (l.getD i z50)) (List.replicate l.length z27)
      rw [List.length_replicate] at this
      rw [this, range_map])
  refine ⟨K, fun k hk' => ?_⟩
  simp only [laws_toKeyS.f]
  rw [if_pos (by omega), if_pos (by omega)]
  have e := hk k hk'
  simpa using e

theorem toKeySS_ev (l : List (List S50)) (hin : inKeySS l) : Ev (fun k => laws_toKeySS.f k l) (convKeySS l) := by
  have h := inKeySS_len hin
  have hl : ∀ i, i ≤ l.length → (fill (fun i => (l.getD i []).map toK) (List.replicate l.length ([] : List S27)) i).length = l.length := fun i hi => by rw [fill_length _ _ _ (by simpa using hi)]; simp
  obtain ⟨K, hk⟩ := evRange0 (σ := List (List S27)) l.length (fun k s i => laws_toKeySS.l0 k l s i) (fun i s => s = fill (fun i => (l.getD i []).map toK) (List.replicate l.length ([] : List S27)) i) (fun _ _ => convKeySS l) (List.replicate l.length ([] : List S27)) (fill_zero _ _).symm
    (by
      intro i s hi hs
      subst hs
      have h1 := hl i (by omega)
      have hr : rd_L2 l (i : Int) = l.getD i [] := by simp [rd_L2]
      obtain ⟨K, e⟩ := toKeyS_ev (l.getD i []) (inKeySS_at hin i hi)
      refine .inl ⟨_, rfl, rfl, K, 1, fun k hk => ?_⟩
      have e1 := e k hk
      simp only at e1
      simp only [laws_toKeySS.l0, hr, e1, Option.bind_some]
      rw [if_pos (by omega), if_pos (by omega), if_pos (by omega), w64s i (by omega), Int.toNat_natCast, fill_set _ _ _ (by simpa using hi) rfl])
    (by
      intro s hs
      subst hs
      refine ⟨0, 1, fun k _ => ?_⟩
      simp only [laws_toKeySS.l0]
      rw [if_neg (by omega)]
      have := fill_all (fun i => (l.getD i []).map toK) (List.replicate l.length ([] : List S27))
      rw [List.length_replicate] at this
      rw [this, range_map (fun x => x.map toK) l []]
      rfl)
  refine ⟨K, fun k hk' => ?_⟩
  simp only [laws_toKeySS.f]
  rw [if_pos (by omega), if_pos (by omega)]
  have e := hk k hk'
  simp only [Int.toNat_natCast]
  exact e

theorem toNode_ev (l : List (List S50)) (hin : inKeySS l) : Ev (fun k => laws_toNode.f k l) (convKeySS l) := by
  obtain ⟨K, e⟩ := toKeySS_ev l hin
  refine ⟨K, fun k hk => ?_⟩
  have e1 := e k hk
  simp only at e1
  simp only [laws_toNode.f, e1, Option.bind_some]

theorem eqKey_refl (x : S27) : laws_eqKey.f x.f0 x.f1 x.f2 x.f3 x.f4 x.f0 x.f1 x.f2 x.f3 x.f4 = some true := by simp [laws_eqKey.f]
theorem eqKey_same (a b c d e : Int) : laws_eqKey.f a b c d e a b c d e = some true := by simp [laws_eqKey.f]
theorem eqKeyS_ev (l : List S27) (ho : okKeyS l) : Ev (fun k => laws_eqKeyS.f k l l) true := by
  have h : l.length ≤ 4194304 := ho
  obtain ⟨K, hk⟩ := evRange0 (σ := Unit) l.length (fun k _ i => laws_eqKeyS.l0 k l l i) (fun _ _ => True) (fun _ _ => true) () trivial
    (by
      intro i _ hi _
      refine .inl ⟨(), trivial, rfl, 0, 1, fun k _ => ?_⟩
      simp only [laws_eqKeyS.l0]
      rw [if_pos (by omega), if_pos (by omega), if_pos (by omega), eqKey_refl, w64s i (by omega)]
      rfl)
    (by
      intro _ _
      refine ⟨0, 1, fun k _ => ?_⟩
      simp only [laws_eqKeyS.l0]
      rw [if_neg (by omega)])
  refine ⟨K, fun k hk' => ?_⟩
  simp only [laws_eqKeyS.f]
  rw [if_pos trivial]
  exact hk k hk'

theorem eqKeySS_ev (l : List (List S27)) (ho : okKeySS l) : Ev (fun k => laws_eqKeySS.f k l l) true := by
  have h := okKeySS_len ho
  obtain ⟨K, hk⟩ := evRange0 (σ := Unit) l.length (fun k _ i => laws_eqKeySS.l0 k l l i) (fun _ _ => True) (fun _ _ => true) () trivial
    (by
      intro i _ hi _
      have hr : rd_L4 l (i : Int) = l.getD i [] := by simp [rd_L4]
      obtain ⟨K, e⟩ := eqKeyS_ev (l.getD i []) (okKeySS_at ho i hi)
      refine .inl ⟨(), trivial, rfl, K, 1, fun k hk => ?_⟩
      have e1 := e k hk
      simp only at e1
      simp only [laws_eqKeySS.l0, hr, e1, Option.bind_some]
      rw [if_pos (by omega), if_pos (by omega), if_pos (by omega), if_pos trivial, w64s i (by omega)])
    (by
      intro _ _
      refine ⟨0, 1, fun k _ => ?_⟩
      simp only [laws_eqKeySS.l0]
      rw [if_neg (by omega)])
  refine ⟨K, fun k hk' => ?_⟩
  simp only [laws_eqKeySS.f]
  rw [if_pos trivial]
  exact hk k hk'

theorem eqNode_ev (l : List (List S27)) (ho : okKeySS l) : Ev (fun k => laws_eqNode.f k l l) true := by
  obtain ⟨K, e⟩ := eqKeySS_ev l ho
  refine ⟨K, fun k hk => ?_⟩
  have e1 := e k hk
  simp only at e1
  simp only [laws_eqNode.f, e1, Option.bind_some]
  rfl

def mkK (a : Int) (i : Nat) : S27 := ⟨a + 5 * i, a + 5 * i + 1, a + 5 * i + 2, a + 5 * i + 3, a + 5 * i + 4⟩
def mkKeyS (l : List S27) (a : Int) : List S27 := (List.range l.length).map (mkK a)
theorem mkKeyS_length (l : List S27) (a : Int) : (mkKeyS l a).length = l.length := by simp [mkKeyS]
theorem markKeyS_ev (l : List S27) (a : Int) (ho : okKeyS l) (h0 : 0 ≤ a) (h1 : a ≤ 1099511627776) : Ev (fun k => laws_markKeyS.f k l a) (a + cntKeyS l, mkKeyS l a) := by
  have h : l.length ≤ 4194304 := ho
  obtain ⟨K, hk⟩ := evRange0 (σ := List S27 × Int) l.length (fun k s i => laws_markKeyS.l0 k s.1 s.2 i) (fun i s => s = (fill (mkK a) l i, a + 5 * i)) (fun _ _ => (a + cntKeyS l, mkKeyS l a)) (l, a) (by simp [fill_zero])
    (by
      intro i s hi hs
      subst hs
      refine .inl ⟨_, rfl, rfl, 0, 1, fun k _ => ?_⟩
      have hl := fill_length (mkK a) l i (by omega)
      simp only [laws_markKeyS.l0]
      rw [if_pos (by omega), if_pos (by omega)]
      simp only [Option.bind_some]
      rw [w64 (x := a + 5 * (i : Int) + 1) (by omega) (by omega), w64 (x := a + 5 * (i : Int) + 1 + 1) (by omega) (by omega), w64 (x := a + 5 * (i : Int) + 1 + 1 + 1) (by omega) (by omega), w64 (x := a + 5 * (i : Int) + 1 + 1 + 1 + 1) (by omega) (by omega), w64 (x := a + 5 * (i : Int) + 1 + 1 + 1 + 1 + 1) (by omega) (by omega), w64s i (by omega), Int.toNat_natCast]
      have hr : ∀ (m : List S27) (v : S27), i < m.length → rd_T27 (m.set i v) (i : Int) = v := fun m v hm => by simp [rd_T27, hm]
      rw [hr _ _ (by omega), hr _ _ (by simp; omega), hr _ _ (by simp; omega), hr _ _ (by simp; omega)]
      simp only [List.set_set]
      rw [fill_set (mkK a) l i hi (by simp only [mkK]; congr 1 <;> omega)]
      congr 1
      push_cast
      omega)
    (by
      intro s hs
      subst hs
      refine ⟨0, 1, fun k _ => ?_⟩
      have hl := fill_length (mkK a) l l.length (by omega)
      simp only [laws_markKeyS.l0]
      rw [if_neg (by omega), fill_all]
      rfl)
  exact ⟨K, fun k hk' => hk k hk'⟩

theorem heldKeyS_ev (l : List S27) (a : Int) (ho : okKeyS l) (h0 : 0 ≤ a) (h1 : a ≤ 1099511627776) : Ev (fun k => laws_heldKeyS.f k (mkKeyS l a) a) (a + cntKeyS l) := by
  have h : l.length ≤ 4194304 := ho
  have hl := mkKeyS_length l a
  obtain ⟨K, hk⟩ := evRange0 (σ := Int) l.length (fun k s i => laws_heldKeyS.l0 k (mkKeyS l a) s i) (fun i s => s = a + 5 * i) (fun _ _ => a + cntKeyS l) a (by simp)
    (by
      intro i s hi hs
      subst hs
      refine .inl ⟨_, rfl, rfl, 0, 1, fun k _ => ?_⟩
      have hr : rd_T27 (mkKeyS l a) (i : Int) = mkK a i := by
        unfold rd_T27 mkKeyS
        rw [Int.toNat_natCast, range_getD _ _ _ _ hi]
      simp only [laws_heldKeyS.l0]
      rw [if_pos (by omega), if_pos (by omega), hr]
      rw [w64 (x := a + 5 * (i : Int) + 1) (by omega) (by omega), w64 (x := a + 5 * (i : Int) + 1 + 1) (by omega) (by omega), w64 (x := a + 5 * (i : Int) + 1 + 1 + 1) (by omega) (by omega), w64 (x := a + 5 * (i : Int) + 1 + 1 + 1 + 1) (by omega) (by omega), w64 (x := a + 5 * (i : Int) + 1 + 1 + 1 + 1 + 1) (by omega) (by omega), w64s i (by omega)]
      rw [if_pos (show (mkK a i).f0 = a + 5 * (i : Int) from rfl), if_pos (show (mkK a i).f1 = a + 5 * (i : Int) + 1 from rfl), if_pos (show (mkK a i).f2 = a + 5 * (i : Int) + 1 + 1 by simp only [mkK]; omega), if_pos (show (mkK a i).f3 = a + 5 * (i : Int) + 1 + 1 + 1 by simp only [mkK]; omega), if_pos (show (mkK a i).f4 = a + 5 * (i : Int) + 1 + 1 + 1 + 1 by simp only [mkK]; omega)]
      congr 1
      push_cast
      omega)
    (by
      intro s hs
      subst hs
      refine ⟨0, 1, fun k _ => ?_⟩
      simp only [laws_heldKeyS.l0]
      rw [if_neg (by omega)]
      rfl)
  exact ⟨K, fun k hk' => hk k hk'⟩

theorem cntKeyS_nn' (x : List S27) : 0 ≤ cntKeyS x := by unfold cntKeyS; omega
def cntKeySS (l : List (List S27)) : Int := cntL cntKeyS l
def mkKeySS (l : List (List S27)) (a : Int) : List (List S27) := mkL mkKeyS cntKeyS l a
theorem cntKeySS_nn0 (l : List (List S27)) : 0 ≤ cntKeySS l := cntL_nn cntKeyS cntKeyS_nn' l
theorem cntKeySS_bulk : ∀ l : List (List S27), cntKeySS l ≤ 5 * (bulkKeySS l : Int)
  | [] => by simp [cntKeySS, cntL, bulkKeySS]
  | x :: xs => by
    have := cntKeySS_bulk xs
    simp only [cntKeySS] at this
    simp only [cntKeySS, cntL, bulkKeySS, cntKeyS]
    push_cast
    omega
theorem cntKeySS_nn {l : List (List S27)} (h : okKeySS l) : 0 ≤ cntKeySS l ∧ cntKeySS l ≤ 20971520 := by
  have := cntKeySS_bulk l
  have := cntKeySS_nn0 l
  unfold okKeySS at h
  omega
theorem cntKeySS_take (l : List (List S27)) (i : Nat) : 0 ≤ cntKeySS (l.take i) ∧ cntKeySS (l.take i) ≤ cntKeySS l := ⟨cntKeySS_nn0 _, cntL_take_le cntKeyS cntKeyS_nn' l i⟩

theorem heldKeySS_ev (l : List (List S27)) (a : Int) (ho : okKeySS l) (h0 : 0 ≤ a) (h1 : a ≤ 1000000000000) : Ev (fun k => laws_heldKeySS.f k (mkKeySS l a) a) (a + cntKeySS l) := by
  have h := okKeySS_len ho
  have hl : (mkKeySS l a).length = l.length := mkL_length _ _ _ _
  have hc := cntKeySS_nn ho
  obtain ⟨K, hk⟩ := evRange0 (σ := Int) l.length (fun k s i => laws_heldKeySS.l0 k (mkKeySS l a) s i) (fun i s => s = a + cntKeySS (l.take i)) (fun _ _ => a + cntKeySS l) a (by simp [cntKeySS, cntL])
    (by
      intro i s hi hs
      subst hs
      have ht := cntKeySS_take l i
      have hr : rd_L4 (mkKeySS l a) (i : Int) = mkKeyS (l.getD i []) (a + cntKeySS (l.take i)) := by
        unfold rd_L4
        rw [Int.toNat_natCast]
        exact mkL_getD mkKeyS cntKeyS [] l a i hi
      obtain ⟨K, e⟩ := heldKeyS_ev (l.getD i []) (a + cntKeySS (l.take i)) (okKeySS_at ho i hi) (by omega) (by omega)
      have hs' : cntKeySS (l.take (i + 1)) = cntKeySS (l.take i) + cntKeyS (l.getD i []) := cntL_take cntKeyS [] l i hi
      have hn := cntKeyS_nn' (l.getD i [])
      refine .inl ⟨_, rfl, rfl, K, 1, fun k hk => ?_⟩
      have e1 := e k hk
      simp only at e1
      simp only [laws_heldKeySS.l0, hr, e1, Option.bind_some]
      rw [if_pos (by omega), if_pos (by omega), if_neg (by omega), w64s i (by omega), hs']
      congr 1
      omega)
    (by
      intro s hs
      subst hs
      refine ⟨0, 1, fun k _ => ?_⟩
      simp only [laws_heldKeySS.l0]
      rw [if_neg (by omega), List.take_length])
  exact ⟨K, fun k hk' => hk k hk'⟩

theorem heldNode_ev (l : List (List S27)) (a : Int) (ho : okKeySS l) (h0 : 0 ≤ a) (h1 : a ≤ 1000000000000) : Ev (fun k => laws_heldNode.f k (mkKeySS l a) a) (a + cntKeySS l) := by
  have hc := cntKeySS_nn ho
  unfold laws_heldNode.f
  refine Ev.bind (heldKeySS_ev l a ho h0 h1) ?_
  simp only [if_neg (show ¬ a + cntKeySS l < 0 by omega)]
  exact Ev.now _

def nodeNew (l : List S27) : List (List S27) := if l.length = 0 then [] else [l]
theorem okKeySS_nodeNew {l : List S27} (h : l.length ≤ 4194303) : okKeySS (nodeNew l) := by
  unfold nodeNew okKeySS
  split
  · simp [bulkKeySS]
  · simp only [bulkKeySS]; omega

theorem spec_NodeNew_ev (l : List S27) (h : l.length ≤ 4194304) : Ev (fun _ => spec_NodeNew.f l) (nodeNew l) := by
  refine evOf fun _ => ?_
  simp only [spec_NodeNew.f, nodeNew, Option.bind_some, List.nil_append, List.length_nil, Nat.zero_add]
  by_cases c : l.length = 0
  · rw [if_pos (by omega), if_pos c]
  · rw [if_neg (by omega), if_neg c, if_pos (by omega)]

/-! What a set of keys is: the model of its functions. -/
def less (a b : S27) : Bool := decide (a.f0 < b.f0 ∨ a.f0 = b.f0 ∧ a.f1 < b.f1)
def same (a b : S27) : Bool := decide (a.f0 = b.f0 ∧ a.f1 = b.f1)
def putGo (k : S27) : List S27 → Bool → List S27
  | [], p => if p then [] else [k]
  | x :: xs, p => (if p || less x k then [] else [k]) ++ ((if same x k then [] else [x]) ++ putGo k xs (p || !less x k))
def setPut (l : List S27) (k : S27) : List S27 := putGo k l false
def mergeSets (a b : List S27) : List S27 := b.foldl setPut a
def dropNone (l : List S27) : List S27 := l.filter fun x => x.f2 != 0
theorem putGo_length (k : S27) : ∀ (l : List S27) (p : Bool), (putGo k l p).length ≤ l.length + 1
  | [], p => by cases p <;> simp [putGo]
  | x :: xs, p => by
    have ih := putGo_length k xs
    have ih1 : p = true → (putGo k xs true).length ≤ xs.length := fun _ => by
      clear ih
      induction xs with
      | nil => simp [putGo]
      | cons y ys ih => simp only [putGo, Bool.true_or, if_true, List.nil_append, List.length_append, List.length_cons]; split <;> simp <;> omega
    simp only [putGo, List.length_append, List.length_cons]
    cases p with
    | true => simp only [Bool.true_or, if_true, List.length_nil]; have := ih1 rfl; split <;> simp <;> omega
    | false =>
      cases hx : less x k with
      | true => simp only [Bool.false_or, if_true, Bool.not_true, List.length_nil]; have := ih false; split <;> simp <;> omega
      | false =>
        simp only [Bool.false_or, Bool.not_false, if_false, Bool.false_eq_true, List.length_cons, List.length_nil]
        have h2 : (putGo k xs true).length ≤ xs.length := by
          clear ih ih1
          induction xs with
          | nil => simp [putGo]
          | cons y ys ih => simp only [putGo, Bool.true_or, if_true, List.nil_append, List.length_append, List.length_cons]; split <;> simp <;> omega
        split <;> simp <;> omega
theorem setPut_length (l : List S27) (k : S27) : (setPut l k).length ≤ l.length + 1 := putGo_length k l false
theorem mergeSets_length (a b : List S27) : (mergeSets a b).length ≤ a.length + b.length := by
  unfold mergeSets
  induction b generalizing a with
  | nil => simp
  | cons x xs ih => simp only [List.foldl_cons, List.length_cons]; have := ih (setPut a x); have := setPut_length a x; omega

theorem spec_LessKey_f (a b : S27) : spec_LessKey.f a.f0 a.f1 a.f2 a.f3 a.f4 b.f0 b.f1 b.f2 b.f3 b.f4 = some (less a b) := by
  unfold spec_LessKey.f less
  split
  · simp [*]
  · simp [*]

theorem spec_SameSpot_f (a b : S27) : spec_SameSpot.f a.f0 a.f1 a.f2 a.f3 a.f4 b.f0 b.f1 b.f2 b.f3 b.f4 = some (same a b) := by
  unfold spec_SameSpot.f same
  split
  · simp only [*, true_and, Option.some.injEq]; rw [Bool.eq_iff_iff]; simp
  · simp [*]

theorem spec_SetPut_ev (l : List S27) (x : S27) (h : l.length ≤ 4194304) : Ev (fun k => spec_SetPut.f k l x.f0 x.f1 x.f2 x.f3 x.f4) (setPut l x) := by
  obtain ⟨K, hk⟩ := evRange0 (σ := List S27 × Bool) l.length (fun k s i => spec_SetPut.l0 k l s.1 s.2 i x.f0 x.f1 x.f2 x.f3 x.f4) (fun i s => s.1.length ≤ 2 * i) (fun i s => s.1 ++ putGo x (l.drop i) s.2) ([], false) (by simp)
    (by
      intro i s hi hs
      obtain ⟨out, put⟩ := s
      simp only at hs
      have hd := drop_getD l i z27 hi
      have hr : rd_T27 l (i : Int) = l.getD i z27 := by simp [rd_T27]
      refine .inl ⟨(out ++ (if put || less (l.getD i z27) x then [] else [x]) ++ (if same (l.getD i z27) x then [] else [l.getD i z27]), put || !less (l.getD i z27) x), ?_, ?_, 0, 2, fun k _ => ?_⟩
      · simp only [List.length_append]; split <;> split <;> simp <;> omega
      · simp only [hd, putGo, List.append_assoc]
      · generalize hy : l.getD i z27 = y at *
        have hw := w64s i (by omega)
        have c1 : (i : Int) < (l.length : Int) := by omega
        have c2 : 0 ≤ (i : Int) := by omega
        simp only [spec_SetPut.l0, hr, spec_LessKey_f, Option.bind_some, spec_SetPut.j1, if_pos c1, if_pos c2]
        cases put <;> cases hl : less y x <;> cases hq : same y x <;>
          simp only [Bool.not_true, Bool.not_false, if_true, if_false, Bool.false_eq_true, reduceCtorEq, spec_SameSpot_f, Option.bind_some, hq, hw, Bool.or_true, Bool.true_or, Bool.or_false, Bool.false_or, List.append_nil, List.append_assoc] <;>
          (repeat rw [if_pos (by first | omega | (simp only [List.length_append, List.length_cons, List.length_nil]; omega))]) <;> rfl)
    (by
      intro s hs
      obtain ⟨out, put⟩ := s
      simp only at hs
      refine ⟨0, 1, fun k _ => ?_⟩
      simp only [spec_SetPut.l0]
      rw [if_neg (by omega)]
      cases put
      · rw [if_neg (by simp), if_pos (by omega)]; simp [putGo]
      · rw [if_pos rfl]; simp [putGo])
  exact ⟨K, fun k hk' => hk k hk'⟩

theorem spec_MergeSets_ev (a b : List S27) (h : a.length + b.length ≤ 4194304) : Ev (fun k => spec_MergeSets.f k a b) (mergeSets a b) := by
  obtain ⟨K, hk⟩ := evRange0 (σ := List S27) b.length (fun k s i => spec_MergeSets.l0 k b s i) (fun i s => s.length ≤ a.length + i) (fun i s => mergeSets s (b.drop i)) a (by simp)
    (by
      intro i s hi hs
      have hd := drop_getD b i z27 hi
      have hr : rd_T27 b (i : Int) = b.getD i z27 := by simp [rd_T27]
      obtain ⟨K, e⟩ := spec_SetPut_ev s (b.getD i z27) (by omega)
      have hlen := setPut_length s (b.getD i z27)
      refine .inl ⟨setPut s (b.getD i z27), by omega, by simp only [hd, mergeSets, List.foldl_cons], K, 1, fun k hk => ?_⟩
      simp only [spec_MergeSets.l0, hr, e k hk, Option.bind_some]
      rw [if_pos (by omega), if_pos (by omega), w64s i (by omega)])
    (by
      intro s hs
      refine ⟨0, 1, fun k _ => ?_⟩
      simp only [spec_MergeSets.l0]
      rw [if_neg (by omega)]
      simp [mergeSets])
  refine ⟨K, fun k hk' => ?_⟩
  simp only [spec_MergeSets.f, Option.bind_some, List.length_nil, List.nil_append]
  rw [if_pos (by omega)]
  exact hk k hk'

theorem spec_Drop_ev (l : List S27) (h : l.length ≤ 4194304) : Ev (fun k => spec_Drop.f k l) (dropNone l) := by
  obtain ⟨K, hk⟩ := evRange0 (σ := List S27) l.length (fun k s i => spec_Drop.l0 k l s i) (fun i s => s.length ≤ i) (fun i s => s ++ dropNone (l.drop i)) [] (by simp)
    (by
      intro i s hi hs
      have hd := drop_getD l i z27 hi
      have hr : rd_T27 l (i : Int) = l.getD i z27 := by simp [rd_T27]
      generalize l.getD i z27 = y at *
      by_cases h1 : y.f2 = 0
      · refine .inl ⟨s, by omega, ?_, 0, 1, fun k _ => ?_⟩
        · rw [hd, dropNone, dropNone, List.filter_cons_of_neg (by simp [h1])]
        · simp only [spec_Drop.l0, hr]
          rw [if_pos (by omega), if_pos (by omega), if_pos h1, w64s i (by omega)]
      · refine .inl ⟨s ++ [y], by simp; omega, ?_, 0, 1, fun k _ => ?_⟩
        · rw [hd, dropNone, dropNone, List.filter_cons_of_pos (by simp [h1]), List.append_assoc]; rfl
        · simp only [spec_Drop.l0, hr]
          rw [if_pos (by omega), if_pos (by omega), if_neg h1, if_pos (by omega), w64s i (by omega)])
    (by
      intro s _
      refine ⟨0, 1, fun k _ => ?_⟩
      simp only [spec_Drop.l0]
      rw [if_neg (by omega)]
      simp [dropNone])
  exact ⟨K, fun k hk' => hk k hk'⟩

/-! A key: five numbers. -/
def keyOk5 (a b c d e : Int) : Bool := decide (0 ≤ a ∧ a ≤ 15) && (decide (1 ≤ b ∧ b ≤ 60) && (decide (0 ≤ c ∧ c ≤ 2) && if c = 1 then decide (0 ≤ d ∧ d ≤ 23) && decide (0 ≤ e ∧ e ≤ 999) else decide (d = 0) && decide (e = 0)))

def keyOkB (x : S27) : Bool := keyOk5 x.f0 x.f1 x.f2 x.f3 x.f4
def risesAt (l : List S27) (j : Nat) : Bool := less (l.getD (j - 1) z27) (l.getD j z27)
def setOkB (l : List S27) : Bool := allFrom (fun j => keyOkB (l.getD j z27) && (j == 0 || risesAt l j)) l.length 0 && decide (l.length ≤ 60)

def countK : List (List S27) → Nat
  | [] => 0
  | l :: ls => l.length + countK ls
def nodeOkB (ls : List (List S27)) : Bool := allFrom (fun i => setOkB (ls.getD i []) && !decide ((ls.getD i []).length = 0)) ls.length 0 && (decide (ls.length ≤ 3) && decide (countK ls ≤ 8))
theorem countK_bulk : ∀ ls : List (List S27), countK ls ≤ bulkKeySS ls
  | [] => Nat.le_refl _
  | l :: ls => by have := countK_bulk ls; simp only [countK, bulkKeySS]; omega
theorem countK_drop (ls : List (List S27)) (i : Nat) (h : i < ls.length) : countK (ls.drop i) = (ls.getD i []).length + countK (ls.drop (i + 1)) := by
  rw [drop_getD ls i [] h]; rfl
theorem countK_le : ∀ (ls : List (List S27)) (i : Nat), countK (ls.drop i) ≤ countK ls
  | [], i => by simp
  | l :: ls, 0 => by simp
  | l :: ls, i + 1 => by have := countK_le ls i; simp only [List.drop_succ_cons, countK]; omega

def spotOf (a b : Int) : Int := wrap64 (wrap64 (64 * a) + b)
/-- The last low at most x, or -1: counted down from n. -/
def whereGo (l : List Int) (x : Int) : Nat → Int
  | 0 => -1
  | n + 1 => if l.getD n 0 ≤ x then (n : Int) else whereGo l x n
theorem whereGo_range (l : List Int) (x : Int) : ∀ n, -1 ≤ whereGo l x n ∧ whereGo l x n < n
  | 0 => by simp [whereGo]
  | n + 1 => by
    have := whereGo_range l x n
    simp only [whereGo]
    split <;> omega

def mergeAll (s : List S27) (ls : List (List S27)) : List S27 := ls.foldl mergeSets s
def nodeKeys (ls : List (List S27)) : List S27 := dropNone (mergeAll [] ls)
theorem mergeAll_length : ∀ (ls : List (List S27)) (s : List S27), (mergeAll s ls).length ≤ s.length + countK ls
  | [], s => by simp [mergeAll]
  | l :: ls, s => by
    have h1 := mergeAll_length ls (mergeSets s l)
    have h2 := mergeSets_length s l
    simp only [mergeAll, List.foldl_cons, countK] at *
    omega
theorem dropNone_length (l : List S27) : (dropNone l).length ≤ l.length := List.length_filter_le _ _
theorem nodeKeys_length (ls : List (List S27)) : (nodeKeys ls).length ≤ countK ls := by
  have h1 := mergeAll_length ls []
  have h2 := dropNone_length (mergeAll [] ls)
  simp only [List.length_nil] at h1
  unfold nodeKeys
  omega
def inBoundsB (lows : List Int) (i : Nat) (ls : List (List S27)) : Bool := ls.all fun l => l.all fun x => decide (lows.getD i 0 ≤ spotOf x.f0 x.f1) && !(decide (i + 1 < lows.length) && decide (lows.getD (i + 1) 0 ≤ spotOf x.f0 x.f1))

theorem spec_NodeKeys_ev (ls : List (List S27)) (ho : okKeySS ls) : Ev (fun k => spec_NodeKeys.f k ls) (nodeKeys ls) := by
  have h := okKeySS_len ho
  have hb := countK_bulk ls
  have hbb : bulkKeySS ls ≤ 4194304 := ho
  obtain ⟨K, hk⟩ := evRange0 (σ := List S27) ls.length (fun k s i => spec_NodeKeys.l0 k s i ls) (fun i s => s.length + countK (ls.drop i) ≤ countK ls) (fun i s => dropNone (mergeAll s (ls.drop i))) [] (by simp)
    (by
      intro i s hi hs
      have hd := drop_getD ls i [] hi
      have hr : rd_L4 ls (i : Int) = ls.getD i [] := by simp [rd_L4]
      rw [countK_drop ls i hi] at hs
      obtain ⟨K, e⟩ := spec_MergeSets_ev s (ls.getD i []) (by omega)
      have hl := mergeSets_length s (ls.getD i [])
      refine .inl ⟨mergeSets s (ls.getD i []), by omega, by rw [hd]; rfl, K, 1, fun k hk => ?_⟩
      have e1 := e k hk
      simp only at e1
      simp only [spec_NodeKeys.l0, hr, e1, Option.bind_some]
      rw [if_pos (by omega), if_pos (by omega), w64s i (by omega)])
    (by
      intro s hs
      simp only [List.drop_length, countK] at hs
      obtain ⟨K, e⟩ := spec_Drop_ev s (by omega)
      refine ⟨K, 1, fun k hk => ?_⟩
      have e1 := e k hk
      simp only at e1
      simp only [spec_NodeKeys.l0, e1, Option.bind_some]
      rw [if_neg (by omega)]
      simp [mergeAll])
  exact ⟨K, fun k hk' => hk k hk'⟩

theorem spec_NodePack_ev (ls : List (List S27)) (ho : okKeySS ls) : Ev (fun k => spec_NodePack.f k ls) (nodeNew (nodeKeys ls)) := by
  have h1 := nodeKeys_length ls
  have h2 := countK_bulk ls
  have h3 : bulkKeySS ls ≤ 4194304 := ho
  unfold spec_NodePack.f
  refine Ev.bind (spec_NodeKeys_ev ls ho) (Ev.bind (spec_NodeNew_ev _ (by omega)) (Ev.now _))

theorem impl_copyKeys_f (a : List S27) (h : a.length ≤ 4194304) : impl_copyKeys.f a = some a := by
  simp only [impl_copyKeys.f, Option.bind_some, List.length_nil, List.nil_append]
  rw [if_pos (by omega)]

theorem impl_NodeNew_ev (l : List S27) (h : l.length ≤ 4194304) : Ev (fun _ => impl_NodeNew.f l) (nodeNew l) := by
  refine evOf fun _ => ?_
  simp only [impl_NodeNew.f, impl_copyKeys.f, nodeNew, Option.bind_some, List.nil_append, List.length_nil, Nat.zero_add]
  by_cases c : l.length = 0
  · rw [if_pos (by omega), if_pos c]
  · rw [if_neg (by omega), if_neg c, if_pos (by omega)]
    rfl

theorem impl_LessKey_f (a b : S27) : impl_LessKey.f a.f0 a.f1 a.f2 a.f3 a.f4 b.f0 b.f1 b.f2 b.f3 b.f4 = some (less a b) := by
  unfold impl_LessKey.f less
  split
  · simp [*]
  · split
    · simp [*]
    · simp [*]

theorem impl_SameSpot_f (a b : S27) : impl_SameSpot.f a.f0 a.f1 a.f2 a.f3 a.f4 b.f0 b.f1 b.f2 b.f3 b.f4 = some (same a b) := by
  unfold impl_SameSpot.f same
  split
  · simp only [*, true_and, Option.some.injEq]; rw [Bool.eq_iff_iff]; simp
  · simp [*]

theorem impl_SetPut_ev (l : List S27) (x : S27) (h : l.length ≤ 4194304) : Ev (fun k => impl_SetPut.f k l x.f0 x.f1 x.f2 x.f3 x.f4) (setPut l x) := by
  obtain ⟨K, hk⟩ := evRange0 (σ := List S27 × Bool) l.length (fun k s i => impl_SetPut.l0 k s.1 s.2 l (l.length : Int) i x.f0 x.f1 x.f2 x.f3 x.f4) (fun i s => s.1.length ≤ 2 * i) (fun i s => s.1 ++ putGo x (l.drop i) s.2) ([], false) (by simp)
    (by
      intro i s hi hs
      obtain ⟨out, put⟩ := s
      simp only at hs
      have hd := drop_getD l i z27 hi
      have hr : rd_T27 l (i : Int) = l.getD i z27 := by simp [rd_T27]
      refine .inl ⟨(out ++ (if put || less (l.getD i z27) x then [] else [x]) ++ (if same (l.getD i z27) x then [] else [l.getD i z27]), put || !less (l.getD i z27) x), ?_, ?_, 0, 2, fun k _ => ?_⟩
      · simp only [List.length_append]; split <;> split <;> simp <;> omega
      · simp only [hd, putGo, List.append_assoc]
      · generalize hy : l.getD i z27 = y at *
        simp only [impl_SetPut.l0, hr]
        rw [if_pos (by omega), if_pos (by omega), if_pos (by omega)]
        rw [impl_LessKey_f]
        simp only [Option.bind_some, impl_SetPut.j1]
        have hw := w64s i (by omega)
        cases put <;> cases hl : less y x <;> cases hq : same y x <;>
          simp only [Bool.not_true, Bool.not_false, if_true, if_false, Bool.false_eq_true, reduceCtorEq, impl_SameSpot_f, Option.bind_some, hq, hw, Bool.or_true, Bool.true_or, Bool.or_false, Bool.false_or, List.append_nil, List.append_assoc] <;>
          (repeat rw [if_pos (by first | omega | (simp only [List.length_append, List.length_cons, List.length_nil]; omega))]) <;> rfl)
    (by
      intro s hs
      obtain ⟨out, put⟩ := s
      simp only at hs
      refine ⟨0, 1, fun k _ => ?_⟩
      simp only [impl_SetPut.l0]
      rw [if_neg (by omega)]
      cases put
      · rw [if_neg (by simp), if_pos (by omega)]; simp [putGo]
      · rw [if_pos rfl]; simp [putGo])
  exact ⟨K, fun k hk' => hk k hk'⟩

theorem impl_MergeSets_ev (a b : List S27) (h : a.length + b.length ≤ 4194304) : Ev (fun k => impl_MergeSets.f k a b) (mergeSets a b) := by
  obtain ⟨K, hk⟩ := evRange0 (σ := List S27) b.length (fun k s i => impl_MergeSets.l0 k s b (b.length : Int) i) (fun i s => s.length ≤ a.length + i) (fun i s => mergeSets s (b.drop i)) a (by simp)
    (by
      intro i s hi hs
      have hd := drop_getD b i z27 hi
      have hr : rd_T27 b (i : Int) = b.getD i z27 := by simp [rd_T27]
      obtain ⟨K, e⟩ := impl_SetPut_ev s (b.getD i z27) (by omega)
      have hlen := setPut_length s (b.getD i z27)
      refine .inl ⟨setPut s (b.getD i z27), by omega, by simp only [hd, mergeSets, List.foldl_cons], K, 1, fun k hk => ?_⟩
      simp only [impl_MergeSets.l0, hr, e k hk, Option.bind_some]
      rw [if_pos (by omega), if_pos (by omega), if_pos (by omega), w64s i (by omega)])
    (by
      intro s hs
      refine ⟨0, 1, fun k _ => ?_⟩
      simp only [impl_MergeSets.l0]
      rw [if_neg (by omega)]
      simp [mergeSets])
  refine ⟨K, fun k hk' => ?_⟩
  simp only [impl_MergeSets.f, impl_copyKeys_f a (by omega), Option.bind_some]
  exact hk k hk'

theorem impl_Drop_ev (l : List S27) (h : l.length ≤ 4194304) : Ev (fun k => impl_Drop.f k l) (dropNone l) := by
  obtain ⟨K, hk⟩ := evRange0 (σ := List S27) l.length (fun k s i => impl_Drop.l0 k s l (l.length : Int) i) (fun i s => s.length ≤ i) (fun i s => s ++ dropNone (l.drop i)) [] (by simp)
    (by
      intro i s hi hs
      have hd := drop_getD l i z27 hi
      have hr : rd_T27 l (i : Int) = l.getD i z27 := by simp [rd_T27]
      generalize l.getD i z27 = y at *
      by_cases h1 : y.f2 = 0
      · refine .inl ⟨s, by omega, ?_, 0, 1, fun k _ => ?_⟩
        · rw [hd, dropNone, dropNone, List.filter_cons_of_neg (by simp [h1])]
        · simp only [impl_Drop.l0, hr]
          rw [if_pos (by omega), if_pos (by omega), if_pos (by omega), if_pos h1, w64s i (by omega)]
      · refine .inl ⟨s ++ [y], by simp; omega, ?_, 0, 1, fun k _ => ?_⟩
        · rw [hd, dropNone, dropNone, List.filter_cons_of_pos (by simp [h1]), List.append_assoc]; rfl
        · simp only [impl_Drop.l0, hr]
          rw [if_pos (by omega), if_pos (by omega), if_pos (by omega), if_neg h1, if_pos (by omega), w64s i (by omega)])
    (by
      intro s _
      refine ⟨0, 1, fun k _ => ?_⟩
      simp only [impl_Drop.l0]
      rw [if_neg (by omega)]
      simp [dropNone])
  exact ⟨K, fun k hk' => hk k hk'⟩

theorem impl_NodeKeys_ev (ls : List (List S27)) (ho : okKeySS ls) : Ev (fun k => impl_NodeKeys.f k ls) (nodeKeys ls) := by
  have h := okKeySS_len ho
  have hb := countK_bulk ls
  have hbb : bulkKeySS ls ≤ 4194304 := ho
  obtain ⟨K, hk⟩ := evRange0 (σ := List S27) ls.length (fun k s i => impl_NodeKeys.l0 k s ls (ls.length : Int) i) (fun i s => s.length + countK (ls.drop i) ≤ countK ls) (fun i s => dropNone (mergeAll s (ls.drop i))) [] (by simp)
    (by
      intro i s hi hs
      have hd := drop_getD ls i [] hi
      have hr : rd_L4 ls (i : Int) = ls.getD i [] := by simp [rd_L4]
      rw [countK_drop ls i hi] at hs
      obtain ⟨K, e⟩ := impl_MergeSets_ev s (ls.getD i []) (by omega)
      have hl := mergeSets_length s (ls.getD i [])
      refine .inl ⟨mergeSets s (ls.getD i []), by omega, by rw [hd]; rfl, K, 1, fun k hk => ?_⟩
      have e1 := e k hk
      simp only at e1
      simp only [impl_NodeKeys.l0, hr, e1, Option.bind_some]
      rw [if_pos (by omega), if_pos (by omega), if_pos (by omega), w64s i (by omega)])
    (by
      intro s hs
      simp only [List.drop_length, countK] at hs
      obtain ⟨K, e⟩ := impl_Drop_ev s (by omega)
      refine ⟨K, 1, fun k hk => ?_⟩
      have e1 := e k hk
      simp only at e1
      simp only [impl_NodeKeys.l0, e1, Option.bind_some]
      rw [if_neg (by omega)]
      simp [mergeAll])
  exact ⟨K, fun k hk' => hk k hk'⟩

theorem impl_NodePack_ev (ls : List (List S27)) (ho : okKeySS ls) : Ev (fun k => impl_NodePack.f k ls) (nodeNew (nodeKeys ls)) := by
  have h1 := nodeKeys_length ls
  have h2 := countK_bulk ls
  have h3 : bulkKeySS ls ≤ 4194304 := ho
  unfold impl_NodePack.f
  refine Ev.bind (impl_NodeKeys_ev ls ho) (Ev.bind (impl_NodeNew_ev _ (by omega)) (Ev.now _))

end Go.Proofs.Ythpfihklkcnckaa.Pure
