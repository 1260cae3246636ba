/- Whatever the arguments: the law answers true; said of the plain functions that the print made of the Go text, with no condition but that the arguments are of their kinds. -/
import Derived.Test.YthpfihklkcnckaaMFnExactTreeAtx0
import Derived.Test.YthpfihklkcnckaaMFnExactTreeAtx1
import Derived.Test.YthpfihklkcnckaaMFnExactTreeAtx2
import Derived.Test.YthpfihklkcnckaaMFnExactTreeAtx3
import Derived.Test.YthpfihklkcnckaaMFnExactTreeAtx4
import Derived.Test.YthpfihklkcnckaaMFnExactTreeAtx5
import Derived.Test.YthpfihklkcnckaaMFnExactTreeAtx6
import Derived.Test.YthpfihklkcnckaaMFnExactTreeAtx7
import Derived.Test.YthpfihklkcnckaaCore
namespace Go.Proofs.Ythpfihklkcnckaa.Pure
open Go.RowKit Go.Proofs.Ythpfihklkcnckaa.PFnExactTreeAt Go.Proofs.Ythpfihklkcnckaa.Core Go.Proofs.YthpfihklkcnckaaW.PrintWords Go.Proofs.YthpfihklkcnckaaW.PrintLast
set_option linter.unusedSimpArgs false
set_option linter.unusedVariables false

def okIntS (l : List Int) : Prop := l.length ≤ 4194304
def cntIntS (l : List Int) : Int := l.length
theorem cntIntS_nn {l : List Int} (h : okIntS l) : 0 ≤ cntIntS l ∧ cntIntS l ≤ 1073741824 := by unfold okIntS at h; unfold cntIntS; omega
def inIntS (l : List Int) : Prop := l.length ≤ 1048576
theorem ok_of_inIntS {l : List Int} (h : inIntS l) : okIntS l := by unfold inIntS at h; unfold okIntS; omega
def sumIntS (l : List Int) : Int := l.length
theorem sumIntS_nn (l : List Int) : 0 ≤ sumIntS l := by unfold sumIntS; omega
theorem in_of_sumIntS {l : List Int} (h : sumIntS l ≤ 1048576) : inIntS l := by unfold sumIntS at h; unfold inIntS; omega

theorem eqIntS_ev (l : List Int) (ho : okIntS l) : Ev (fun k => laws_eqIntS.f k l l) true := by
  have h : l.length ≤ 4194304 := ho
  obtain ⟨K, hk⟩ := evRange0 (σ := Unit) l.length (fun k _ i => laws_eqIntS.l0 k l l i) (fun _ _ => True) (fun _ _ => true) () trivial
    (by
      intro i _ hi _
      refine .inl ⟨(), trivial, rfl, 0, 1, fun k _ => ?_⟩
      simp only [laws_eqIntS.l0]
      rw [if_pos (by omega), if_pos (by omega), if_pos (by omega), if_pos trivial, w64s i (by omega)])
    (by
      intro _ _
      refine ⟨0, 1, fun k _ => ?_⟩
      simp only [laws_eqIntS.l0]
      rw [if_neg (by omega)])
  refine ⟨K, fun k hk' => ?_⟩
  simp only [laws_eqIntS.f]
  rw [if_pos trivial]
  exact hk k hk'

def toK (x : S50) : S27 := ⟨x.f0, x.f1, x.f2, x.f3, x.f4⟩

def okKeyS (l : List S27) : Prop := l.length ≤ 4194304
def cntKeyS (l : List S27) : Int := 5 * l.length
theorem cntKeyS_nn {l : List S27} (h : okKeyS l) : 0 ≤ cntKeyS l ∧ cntKeyS l ≤ 1073741824 := by unfold okKeyS at h; unfold cntKeyS; omega
def inKeyS (l : List S50) : Prop := l.length ≤ 1048576
def sumKeyS (l : List S50) : Int := l.length
theorem sumKeyS_nn (l : List S50) : 0 ≤ sumKeyS l := by unfold sumKeyS; omega
theorem in_of_sumKeyS {l : List S50} (h : sumKeyS l ≤ 1048576) : inKeyS l := by unfold sumKeyS at h; unfold inKeyS; omega
theorem ok_of_inKeyS {l : List S50} (h : inKeyS l) : okKeyS (l.map toK) := by unfold inKeyS at h; unfold okKeyS; rw [List.length_map]; omega
def goodK (x : S50) : Prop := (Lit.int .i64 x.f0).wf = true ∧ (Lit.int .i64 x.f1).wf = true ∧ (Lit.int .i64 x.f2).wf = true ∧ (Lit.int .i64 x.f3).wf = true ∧ (Lit.int .i64 x.f4).wf = true

theorem eqKey_refl (x : S27) : laws_eqKey.f x.f0 x.f1 x.f2 x.f3 x.f4 x.f0 x.f1 x.f2 x.f3 x.f4 = some true := by simp [laws_eqKey.f]
theorem eqKey_same (a b c d e : Int) : laws_eqKey.f a b c d e a b c d e = some true := by simp [laws_eqKey.f]
theorem eqKeyS_ev (l : List S27) (ho : okKeyS l) : Ev (fun k => laws_eqKeyS.f k l l) true := by
  have h : l.length ≤ 4194304 := ho
  obtain ⟨K, hk⟩ := evRange0 (σ := Unit) l.length (fun k _ i => laws_eqKeyS.l0 k l l i) (fun _ _ => True) (fun _ _ => true) () trivial
    (by
      intro i _ hi _
      refine .inl ⟨(), trivial, rfl, 0, 1, fun k _ => ?_⟩
      simp only [laws_eqKeyS.l0]
      rw [if_pos (by omega), if_pos (by omega), if_pos (by omega), eqKey_refl, w64s i (by omega)]
      rfl)
    (by
      intro _ _
      refine ⟨0, 1, fun k _ => ?_⟩
      simp only [laws_eqKeyS.l0]
      rw [if_neg (by omega)])
  refine ⟨K, fun k hk' => ?_⟩
  simp only [laws_eqKeyS.f]
  rw [if_pos trivial]
  exact hk k hk'

theorem szKeyS_f (l : List S50) (a : Int) (hl : l.length ≤ 9223372036854775807) (h0 : 0 ≤ a) (h1 : a ≤ 1048576) : laws_szKeyS.f l a = some (if a < sumKeyS l then -1 else a - sumKeyS l) := by
  unfold laws_szKeyS.f sumKeyS
  rw [w64 (by omega) (by omega)]
  by_cases h : a < (l.length : Int)
  · rw [if_pos (by omega), if_pos h]
  · rw [if_neg (by omega), if_neg h]
theorem szKeyS_big (l : List S50) (a : Int) (hl : l.length ≤ 9223372036854775807) (h0 : 0 ≤ a) (h1 : a ≤ 1048576) (h : a < sumKeyS l) : Ev (fun _ => laws_szKeyS.f l a) (-1) := evOf fun _ => by rw [szKeyS_f l a hl h0 h1, if_pos h]
theorem szKeyS_fit (l : List S50) (a : Int) (hl : l.length ≤ 9223372036854775807) (h0 : 0 ≤ a) (h1 : a ≤ 1048576) (h : ¬ a < sumKeyS l) : Ev (fun _ => laws_szKeyS.f l a) (a - sumKeyS l) := evOf fun _ => by rw [szKeyS_f l a hl h0 h1, if_neg h]

/-! A slice of them. -/
def convKeySS (l : List (List S50)) : List (List S27) := l.map fun x => x.map toK
def sumKeySS : List (List S50) → Int
  | [] => 0
  | x :: xs => 1 + sumKeyS x + sumKeySS xs
theorem sumKeySS_nn : ∀ l : List (List S50), (l.length : Int) ≤ sumKeySS l
  | [] => by simp [sumKeySS]
  | x :: xs => by
    have := sumKeySS_nn xs
    have := sumKeyS_nn x
    simp only [sumKeySS, List.length_cons]
    omega
theorem sumKeySS_pos (l : List (List S50)) : 0 ≤ sumKeySS l := by have := sumKeySS_nn l; omega
theorem sumKeySS_at : ∀ (l : List (List S50)) (i : Nat), i < l.length → 1 + sumKeyS (l.getD i []) + sumKeySS (l.drop (i + 1)) = sumKeySS (l.drop i) := by
  intro l i hi
  rw [drop_getD l i [] hi]
  rfl
theorem sumKeySS_drop : ∀ (l : List (List S50)) (i : Nat), sumKeySS (l.drop i) ≤ sumKeySS l
  | [], i => by simp
  | x :: xs, 0 => by simp
  | x :: xs, i + 1 => by
    have := sumKeySS_drop xs i
    have := sumKeyS_nn x
    simp only [List.drop_succ_cons, sumKeySS]
    omega
def inKeySS (l : List (List S50)) : Prop := sumKeySS l ≤ 1048576
theorem in_of_sumKeySS {l : List (List S50)} (h : sumKeySS l ≤ 1048576) : inKeySS l := h
theorem inKeySS_len {l : List (List S50)} (h : inKeySS l) : l.length ≤ 1048576 := by have := sumKeySS_nn l; unfold inKeySS at h; omega
theorem inKeySS_at {l : List (List S50)} (h : inKeySS l) (i : Nat) (hi : i < l.length) : inKeyS (l.getD i []) := by
  have h1 := sumKeySS_at l i hi
  have h2 := sumKeySS_drop l i
  have h3 := sumKeySS_nn (l.drop (i + 1))
  unfold inKeySS at h
  exact in_of_sumKeyS (by omega)
/-- What the impl's side holds, all in all. -/
def bulkKeySS : List (List S27) → Nat
  | [] => 0
  | x :: xs => 1 + x.length + bulkKeySS xs
def okKeySS (l : List (List S27)) : Prop := bulkKeySS l ≤ 4194304
theorem bulkKeySS_len : ∀ l : List (List S27), l.length ≤ bulkKeySS l
  | [] => by simp [bulkKeySS]
  | x :: xs => by have := bulkKeySS_len xs; simp only [bulkKeySS, List.length_cons]; omega
theorem bulkKeySS_at : ∀ (l : List (List S27)) (i : Nat), i < l.length → (l.getD i []).length ≤ bulkKeySS l
  | x :: xs, 0, _ => by simp only [bulkKeySS, List.getD_cons_zero]; omega
  | x :: xs, i + 1, h => by
    have := bulkKeySS_at xs i (by simpa using h)
    simp only [bulkKeySS, List.getD_cons_succ]; omega
theorem okKeySS_at {l : List (List S27)} (h : okKeySS l) (i : Nat) (hi : i < l.length) : okKeyS (l.getD i []) := by
  have h1 := bulkKeySS_at l i hi
  unfold okKeySS at h
  show (l.getD i []).length ≤ 4194304
  omega
theorem okKeySS_len {l : List (List S27)} (h : okKeySS l) : l.length ≤ 4194304 := by have := bulkKeySS_len l; unfold okKeySS at h; omega
theorem bulk_convKeySS : ∀ l : List (List S50), (bulkKeySS (convKeySS l) : Int) = sumKeySS l
  | [] => rfl
  | x :: xs => by
    have h1 := bulk_convKeySS xs
    have h2 : (((x.map toK).length : Nat) : Int) = sumKeyS x := by rw [List.length_map]; rfl
    (try simp only at h2)
    simp only [convKeySS] at h1
    simp only [convKeySS, List.map_cons, bulkKeySS, sumKeySS]
    omega
theorem ok_of_inKeySS {l : List (List S50)} (h : inKeySS l) : okKeySS (convKeySS l) := by
  have := bulk_convKeySS l
  unfold inKeySS at h
  unfold okKeySS
  omega

theorem eqKeySS_ev (l : List (List S27)) (ho : okKeySS l) : Ev (fun k => laws_eqKeySS.f k l l) true := by
  have h := okKeySS_len ho
  obtain ⟨K, hk⟩ := evRange0 (σ := Unit) l.length (fun k _ i => laws_eqKeySS.l0 k l l i) (fun _ _ => True) (fun _ _ => true) () trivial
    (by
      intro i _ hi _
      have hr : rd_L2 l (i : Int) = l.getD i [] := by simp [rd_L2]
      obtain ⟨K, e⟩ := eqKeyS_ev (l.getD i []) (okKeySS_at ho i hi)
      refine .inl ⟨(), trivial, rfl, K, 1, fun k hk => ?_⟩
      have e1 := e k hk
      simp only at e1
      simp only [laws_eqKeySS.l0, hr, e1, Option.bind_some]
      rw [if_pos (by omega), if_pos (by omega), if_pos (by omega), if_pos trivial, w64s i (by omega)])
    (by
      intro _ _
      refine ⟨0, 1, fun k _ => ?_⟩
      simp only [laws_eqKeySS.l0]
      rw [if_neg (by omega)])
  refine ⟨K, fun k hk' => ?_⟩
  simp only [laws_eqKeySS.f]
  rw [if_pos trivial]
  exact hk k hk'

theorem eqNode_ev (l : List (List S27)) (ho : okKeySS l) : Ev (fun k => laws_eqNode.f k l l) true := by
  obtain ⟨K, e⟩ := eqKeySS_ev l ho
  refine ⟨K, fun k hk => ?_⟩
  have e1 := e k hk
  simp only at e1
  simp only [laws_eqNode.f, e1, Option.bind_some]
  rfl

def goodKeySS (l : List (List S50)) : Prop := l.length ≤ 9223372036854775807 ∧ ∀ x ∈ l, x.length ≤ 9223372036854775807
theorem szKeySS_l0 (l : List (List S50)) (hg : goodKeySS l) : ∀ (d i : Nat) (s : Int), l.length - i = d → i ≤ l.length → 0 ≤ s → s ≤ 1048576 → l.length ≤ 1048576 → Ev (fun k => laws_szKeySS.l0 k l s (i : Int)) (if s < sumKeySS (l.drop i) - ((l.length : Int) - i) then -1 else s - (sumKeySS (l.drop i) - ((l.length : Int) - i))) := by
  intro d
  induction d with
  | zero =>
    intro i s hd hi h0 h1 hl
    obtain rfl : i = l.length := by omega
    refine evSucc ⟨0, 1, fun k _ => ?_⟩
    simp only [laws_szKeySS.l0]
    rw [if_neg (by omega), List.drop_length]
    rw [show sumKeySS [] = 0 from rfl, if_neg (by omega)]
    congr 1; omega
  | succ d ih =>
    intro i s hd hi h0 h1 hl
    have hlt : i < l.length := by omega
    have hs := sumKeySS_at l i hlt
    have hn := sumKeySS_nn (l.drop (i + 1))
    rw [List.length_drop] at hn
    have hr : rd_L6 l (i : Int) = l.getD i [] := by simp [rd_L6]
    have hgx := hg.2 _ (getD_mem l i [] hlt)
    generalize l.getD i [] = y at *
    have hy := sumKeyS_nn y
    by_cases c : s < sumKeyS y
    · obtain ⟨K, e⟩ := szKeyS_big y s hgx h0 h1 c
      refine evSucc ⟨K, 1, fun k hk => ?_⟩
      have e1 := e k hk
      simp only at e1
      simp only [laws_szKeySS.l0, hr, e1, Option.bind_some]
      rw [if_pos (by omega), if_pos (by omega), if_pos (by decide), if_pos (by omega)]
    · obtain ⟨K, e⟩ := szKeyS_fit y s hgx h0 h1 c
      obtain ⟨K2, e2⟩ := ih (i + 1) (s - sumKeyS y) (by omega) (by omega) (by omega) (by omega) hl
      refine evSucc ⟨K + K2, 1, fun k hk => ?_⟩
      have e1 := e k (by omega)
      have e3 := e2 k (by omega)
      simp only at e1 e3
      simp only [laws_szKeySS.l0, hr, e1, Option.bind_some]
      rw [if_pos (by omega), if_pos (by omega), if_neg (by omega), w64s i (by omega), e3]
      have hc : ((i + 1 : Nat) : Int) = (i : Int) + 1 := by omega
      rw [hc]
      by_cases c2 : s - sumKeyS y < sumKeySS (l.drop (i + 1)) - ((l.length : Int) - ((i : Int) + 1))
      · rw [if_pos c2, if_pos (by omega)]
      · rw [if_neg c2, if_neg (by omega)]; congr 1; omega
theorem szKeySS_big (l : List (List S50)) (a : Int) (hg : goodKeySS l) (h0 : 0 ≤ a) (h1 : a ≤ 1048576) (h : a < sumKeySS l) : Ev (fun k => laws_szKeySS.f k l a) (-1) := by
  have hn := hg.1
  by_cases c : a < l.length
  · refine evOf fun k => ?_
    simp only [laws_szKeySS.f]
    rw [w64 (by omega) (by omega), if_pos (by omega)]
  · obtain ⟨K, e⟩ := szKeySS_l0 l hg _ 0 (a - l.length) rfl (Nat.zero_le _) (by omega) (by omega) (by omega)
    refine ⟨K, fun k hk => ?_⟩
    have e1 := e k hk
    simp only [laws_szKeySS.f]
    rw [w64 (by omega) (by omega), if_neg (by omega)]
    simp only [List.drop_zero, Int.natCast_zero] at e1
    rw [if_pos (by omega)] at e1
    exact e1
theorem szKeySS_fit (l : List (List S50)) (a : Int) (hg : goodKeySS l) (h0 : 0 ≤ a) (h1 : a ≤ 1048576) (h : ¬ a < sumKeySS l) : Ev (fun k => laws_szKeySS.f k l a) (a - sumKeySS l) := by
  have hn := sumKeySS_nn l
  obtain ⟨K, e⟩ := szKeySS_l0 l hg _ 0 (a - l.length) rfl (Nat.zero_le _) (by omega) (by omega) (by omega)
  refine ⟨K, fun k hk => ?_⟩
  have e1 := e k hk
  simp only [laws_szKeySS.f]
  rw [w64 (by omega) (by omega), if_neg (by omega)]
  simp only [List.drop_zero, Int.natCast_zero] at e1
  rw [if_neg (by omega)] at e1
  rw [show a - sumKeySS l = a - ↑l.length - (sumKeySS l - (↑l.length - 0)) by omega]
  exact e1

theorem szNode_big (l : List (List S50)) (a : Int) (hg : goodKeySS l) (h0 : 0 ≤ a) (h1 : a ≤ 1048576) (h : a < sumKeySS l) : Ev (fun k => laws_szNode.f k l a) (-1) := by
  obtain ⟨K, e⟩ := szKeySS_big l a hg h0 h1 h
  refine ⟨K, fun k hk => ?_⟩
  have e1 := e k hk
  simp only at e1
  simp only [laws_szNode.f, e1, Option.bind_some]
  rfl
theorem szNode_fit (l : List (List S50)) (a : Int) (hg : goodKeySS l) (h0 : 0 ≤ a) (h1 : a ≤ 1048576) (h : ¬ a < sumKeySS l) : Ev (fun k => laws_szNode.f k l a) (a - sumKeySS l) := by
  obtain ⟨K, e⟩ := szKeySS_fit l a hg h0 h1 h
  refine ⟨K, fun k hk => ?_⟩
  have e1 := e k hk
  simp only at e1
  simp only [laws_szNode.f, e1, Option.bind_some]
  rw [if_neg (by omega)]

/-! A slice of them. -/
def convNodeS (l : List (S24)) : List (S32) := l.map fun x => (⟨convKeySS x.f0⟩ : S32)
def sumNodeS : List (S24) → Int
  | [] => 0
  | x :: xs => 1 + sumKeySS x.f0 + sumNodeS xs
theorem sumNodeS_nn : ∀ l : List (S24), (l.length : Int) ≤ sumNodeS l
  | [] => by simp [sumNodeS]
  | x :: xs => by
    have := sumNodeS_nn xs
    have := sumKeySS_nn x.f0
    simp only [sumNodeS, List.length_cons]
    omega
theorem sumNodeS_pos (l : List (S24)) : 0 ≤ sumNodeS l := by have := sumNodeS_nn l; omega
theorem sumNodeS_at : ∀ (l : List (S24)) (i : Nat), i < l.length → 1 + sumKeySS (l.getD i z24).f0 + sumNodeS (l.drop (i + 1)) = sumNodeS (l.drop i) := by
  intro l i hi
  rw [drop_getD l i z24 hi]
  rfl
theorem sumNodeS_drop : ∀ (l : List (S24)) (i : Nat), sumNodeS (l.drop i) ≤ sumNodeS l
  | [], i => by simp
  | x :: xs, 0 => by simp
  | x :: xs, i + 1 => by
    have := sumNodeS_drop xs i
    have := sumKeySS_nn x.f0
    simp only [List.drop_succ_cons, sumNodeS]
    omega
def inNodeS (l : List (S24)) : Prop := sumNodeS l ≤ 1048576
theorem in_of_sumNodeS {l : List (S24)} (h : sumNodeS l ≤ 1048576) : inNodeS l := h
theorem inNodeS_len {l : List (S24)} (h : inNodeS l) : l.length ≤ 1048576 := by have := sumNodeS_nn l; unfold inNodeS at h; omega
theorem inNodeS_at {l : List (S24)} (h : inNodeS l) (i : Nat) (hi : i < l.length) : inKeySS (l.getD i z24).f0 := by
  have h1 := sumNodeS_at l i hi
  have h2 := sumNodeS_drop l i
  have h3 := sumNodeS_nn (l.drop (i + 1))
  unfold inNodeS at h
  exact in_of_sumKeySS (by omega)
/-- What the impl's side holds, all in all. -/
def bulkNodeS : List (S32) → Nat
  | [] => 0
  | x :: xs => 1 + bulkKeySS x.f0 + bulkNodeS xs
def okNodeS (l : List (S32)) : Prop := bulkNodeS l ≤ 4194304
theorem bulkNodeS_len : ∀ l : List (S32), l.length ≤ bulkNodeS l
  | [] => by simp [bulkNodeS]
  | x :: xs => by have := bulkNodeS_len xs; simp only [bulkNodeS, List.length_cons]; omega
theorem bulkNodeS_at : ∀ (l : List (S32)) (i : Nat), i < l.length → bulkKeySS (l.getD i z32).f0 ≤ bulkNodeS l
  | x :: xs, 0, _ => by simp only [bulkNodeS, List.getD_cons_zero]; omega
  | x :: xs, i + 1, h => by
    have := bulkNodeS_at xs i (by simpa using h)
    simp only [bulkNodeS, List.getD_cons_succ]; omega
theorem okNodeS_at {l : List (S32)} (h : okNodeS l) (i : Nat) (hi : i < l.length) : okKeySS (l.getD i z32).f0 := by
  have h1 := bulkNodeS_at l i hi
  unfold okNodeS at h
  show bulkKeySS (l.getD i z32).f0 ≤ 4194304
  omega
theorem okNodeS_len {l : List (S32)} (h : okNodeS l) : l.length ≤ 4194304 := by have := bulkNodeS_len l; unfold okNodeS at h; omega
theorem bulk_convNodeS : ∀ l : List (S24), (bulkNodeS (convNodeS l) : Int) = sumNodeS l
  | [] => rfl
  | x :: xs => by
    have h1 := bulk_convNodeS xs
    have h2 : ((bulkKeySS ((⟨convKeySS x.f0⟩ : S32)).f0 : Nat) : Int) = sumKeySS x.f0 := bulk_convKeySS x.f0
    (try simp only at h2)
    simp only [convNodeS] at h1
    simp only [convNodeS, List.map_cons, bulkNodeS, sumNodeS]
    omega
theorem ok_of_inNodeS {l : List (S24)} (h : inNodeS l) : okNodeS (convNodeS l) := by
  have := bulk_convNodeS l
  unfold inNodeS at h
  unfold okNodeS
  omega

theorem eqNodeS_ev (l : List (S32)) (ho : okNodeS l) : Ev (fun k => laws_eqNodeS.f k l l) true := by
  have h := okNodeS_len ho
  obtain ⟨K, hk⟩ := evRange0 (σ := Unit) l.length (fun k _ i => laws_eqNodeS.l0 k l l i) (fun _ _ => True) (fun _ _ => true) () trivial
    (by
      intro i _ hi _
      have hr : rd_T32 l (i : Int) = l.getD i z32 := by simp [rd_T32]
      obtain ⟨K, e⟩ := eqNode_ev (l.getD i z32).f0 (okNodeS_at ho i hi)
      refine .inl ⟨(), trivial, rfl, K, 1, fun k hk => ?_⟩
      have e1 := e k hk
      simp only at e1
      simp only [laws_eqNodeS.l0, hr, e1, Option.bind_some]
      rw [if_pos (by omega), if_pos (by omega), if_pos (by omega), if_pos trivial, w64s i (by omega)])
    (by
      intro _ _
      refine ⟨0, 1, fun k _ => ?_⟩
      simp only [laws_eqNodeS.l0]
      rw [if_neg (by omega)])
  refine ⟨K, fun k hk' => ?_⟩
  simp only [laws_eqNodeS.f]
  rw [if_pos trivial]
  exact hk k hk'

theorem eqTree_ev (l : List Int) (n : List S32) (h1 : okIntS l) (h2 : okNodeS n) : Ev (fun k => laws_eqTree.f k l n l n) true := by
  obtain ⟨K, e⟩ := eqIntS_ev l h1
  obtain ⟨K2, e2⟩ := eqNodeS_ev n h2
  refine ⟨K + K2, fun k hk => ?_⟩
  have a1 := e k (by omega)
  have a2 := e2 k (by omega)
  simp only at a1 a2
  simp only [laws_eqTree.f, a1, a2, Option.bind_some]
  rfl

theorem szIntS_f (l : List Int) (a : Int) (hl : l.length ≤ 9223372036854775807) (h0 : 0 ≤ a) (h1 : a ≤ 1048576) : laws_szIntS.f l a = some (if a < sumIntS l then -1 else a - sumIntS l) := by
  unfold laws_szIntS.f sumIntS
  rw [w64 (by omega) (by omega)]
  by_cases h : a < (l.length : Int)
  · rw [if_pos (by omega), if_pos h]
  · rw [if_neg (by omega), if_neg h]
theorem szIntS_big (l : List Int) (a : Int) (hl : l.length ≤ 9223372036854775807) (h0 : 0 ≤ a) (h1 : a ≤ 1048576) (h : a < sumIntS l) : Ev (fun _ => laws_szIntS.f l a) (-1) := evOf fun _ => by rw [szIntS_f l a hl h0 h1, if_pos h]
theorem szIntS_fit (l : List Int) (a : Int) (hl : l.length ≤ 9223372036854775807) (h0 : 0 ≤ a) (h1 : a ≤ 1048576) (h : ¬ a < sumIntS l) : Ev (fun _ => laws_szIntS.f l a) (a - sumIntS l) := evOf fun _ => by rw [szIntS_f l a hl h0 h1, if_neg h]

def goodNodeS (l : List (S24)) : Prop := l.length ≤ 9223372036854775807 ∧ ∀ x ∈ l, goodKeySS x.f0
theorem szNodeS_l0 (l : List (S24)) (hg : goodNodeS l) : ∀ (d i : Nat) (s : Int), l.length - i = d → i ≤ l.length → 0 ≤ s → s ≤ 1048576 → l.length ≤ 1048576 → Ev (fun k => laws_szNodeS.l0 k l s (i : Int)) (if s < sumNodeS (l.drop i) - ((l.length : Int) - i) then -1 else s - (sumNodeS (l.drop i) - ((l.length : Int) - i))) := by
  intro d
  induction d with
  | zero =>
    intro i s hd hi h0 h1 hl
    obtain rfl : i = l.length := by omega
    refine evSucc ⟨0, 1, fun k _ => ?_⟩
    simp only [laws_szNodeS.l0]
    rw [if_neg (by omega), List.drop_length]
    rw [show sumNodeS [] = 0 from rfl, if_neg (by omega)]
    congr 1; omega
  | succ d ih =>
    intro i s hd hi h0 h1 hl
    have hlt : i < l.length := by omega
    have hs := sumNodeS_at l i hlt
    have hn := sumNodeS_nn (l.drop (i + 1))
    rw [List.length_drop] at hn
    have hr : rd_T24 l (i : Int) = l.getD i z24 := by simp [rd_T24]
    have hgx := hg.2 _ (getD_mem l i z24 hlt)
    generalize l.getD i z24 = y at *
    have hy := sumKeySS_nn y.f0
    by_cases c : s < sumKeySS y.f0
    · obtain ⟨K, e⟩ := szNode_big y.f0 s hgx h0 h1 c
      refine evSucc ⟨K, 1, fun k hk => ?_⟩
      have e1 := e k hk
      simp only at e1
      simp only [laws_szNodeS.l0, hr, e1, Option.bind_some]
      rw [if_pos (by omega), if_pos (by omega), if_pos (by decide), if_pos (by omega)]
    · obtain ⟨K, e⟩ := szNode_fit y.f0 s hgx h0 h1 c
      obtain ⟨K2, e2⟩ := ih (i + 1) (s - sumKeySS y.f0) (by omega) (by omega) (by omega) (by omega) hl
      refine evSucc ⟨K + K2, 1, fun k hk => ?_⟩
      have e1 := e k (by omega)
      have e3 := e2 k (by omega)
      simp only at e1 e3
      simp only [laws_szNodeS.l0, hr, e1, Option.bind_some]
      rw [if_pos (by omega), if_pos (by omega), if_neg (by omega), w64s i (by omega), e3]
      have hc : ((i + 1 : Nat) : Int) = (i : Int) + 1 := by omega
      rw [hc]
      by_cases c2 : s - sumKeySS y.f0 < sumNodeS (l.drop (i + 1)) - ((l.length : Int) - ((i : Int) + 1))
      · rw [if_pos c2, if_pos (by omega)]
      · rw [if_neg c2, if_neg (by omega)]; congr 1; omega
theorem szNodeS_big (l : List (S24)) (a : Int) (hg : goodNodeS l) (h0 : 0 ≤ a) (h1 : a ≤ 1048576) (h : a < sumNodeS l) : Ev (fun k => laws_szNodeS.f k l a) (-1) := by
  have hn := hg.1
  by_cases c : a < l.length
  · refine evOf fun k => ?_
    simp only [laws_szNodeS.f]
    rw [w64 (by omega) (by omega), if_pos (by omega)]
  · obtain ⟨K, e⟩ := szNodeS_l0 l hg _ 0 (a - l.length) rfl (Nat.zero_le _) (by omega) (by omega) (by omega)
    refine ⟨K, fun k hk => ?_⟩
    have e1 := e k hk
    simp only [laws_szNodeS.f]
    rw [w64 (by omega) (by omega), if_neg (by omega)]
    simp only [List.drop_zero, Int.natCast_zero] at e1
    rw [if_pos (by omega)] at e1
    exact e1
theorem szNodeS_fit (l : List (S24)) (a : Int) (hg : goodNodeS l) (h0 : 0 ≤ a) (h1 : a ≤ 1048576) (h : ¬ a < sumNodeS l) : Ev (fun k => laws_szNodeS.f k l a) (a - sumNodeS l) := by
  have hn := sumNodeS_nn l
  obtain ⟨K, e⟩ := szNodeS_l0 l hg _ 0 (a - l.length) rfl (Nat.zero_le _) (by omega) (by omega) (by omega)
  refine ⟨K, fun k hk => ?_⟩
  have e1 := e k hk
  simp only [laws_szNodeS.f]
  rw [w64 (by omega) (by omega), if_neg (by omega)]
  simp only [List.drop_zero, Int.natCast_zero] at e1
  rw [if_neg (by omega)] at e1
  rw [show a - sumNodeS l = a - ↑l.length - (sumNodeS l - (↑l.length - 0)) by omega]
  exact e1

def sumTree (l : List Int) (n : List S24) : Int := sumIntS l + sumNodeS n
theorem szTree_big (l : List Int) (n : List S24) (a : Int) (hl : l.length ≤ 9223372036854775807) (hg : goodNodeS n) (h0 : 0 ≤ a) (h1 : a ≤ 1048576) (h : a < sumTree l n) : Ev (fun k => laws_szTree.f k l n a) (-1) := by
  have u := sumIntS_nn l
  unfold sumTree at h
  by_cases c : a < sumIntS l
  · refine evOf fun k => ?_
    simp only [laws_szTree.f, szIntS_f l a hl h0 h1, if_pos c, Option.bind_some]
    rfl
  · obtain ⟨K, e⟩ := szNodeS_big n (a - sumIntS l) hg (by omega) (by omega) (by omega)
    refine ⟨K, fun k hk => ?_⟩
    have e1 := e k hk
    simp only at e1
    simp only [laws_szTree.f, szIntS_f l a hl h0 h1, if_neg c, Option.bind_some, e1]
    rw [if_neg (by omega)]
    rfl
theorem szTree_fit (l : List Int) (n : List S24) (a : Int) (hl : l.length ≤ 9223372036854775807) (hg : goodNodeS n) (h0 : 0 ≤ a) (h1 : a ≤ 1048576) (h : ¬ a < sumTree l n) : Ev (fun k => laws_szTree.f k l n a) (a - sumTree l n) := by
  have u := sumIntS_nn l
  have u2 := sumNodeS_pos n
  unfold sumTree at h
  obtain ⟨K, e⟩ := szNodeS_fit n (a - sumIntS l) hg (by omega) (by omega) (by omega)
  refine ⟨K, fun k hk => ?_⟩
  have e1 := e k hk
  simp only at e1
  simp only [laws_szTree.f, szIntS_f l a hl h0 h1, if_neg (show ¬ a < sumIntS l by omega), Option.bind_some, e1]
  rw [if_neg (by omega), if_neg (by omega)]
  unfold sumTree
  congr 1
  omega

theorem toIntS_ev (l : List Int) (hi : inIntS l) : Ev (fun k => laws_toIntS.f k l) l := by
  have h : l.length ≤ 1048576 := hi
  have hl : ∀ i, i ≤ l.length → (fill (fun i => l.getD i 0) (List.replicate l.length (0 : Int)) i).length = l.length := fun i hi => by rw [fill_length _ _ _ (by simpa using hi)]; simp
  obtain ⟨K, hk⟩ := evRange0 (σ := List Int) l.length (fun k s i => laws_toIntS.l0 k l s i) (fun i s => s = fill (fun i => l.getD i 0) (List.replicate l.length (0 : Int)) i) (fun _ _ => l) (List.replicate l.length (0 : Int)) (fill_zero _ _).symm
    (by
      intro i s hi hs
      subst hs
      refine .inl ⟨_, rfl, rfl, 0, 1, fun k _ => ?_⟩
      have h1 := hl i (by omega)
      simp only [laws_toIntS.l0]
      rw [if_pos (by omega), if_pos (by omega), if_pos (by omega), w64s i (by omega), Int.toNat_natCast, fill_set _ _ _ (by simpa using hi) (rd_nat l i)])
    (by
      intro s hs
      subst hs
      refine ⟨0, 1, fun k _ => ?_⟩
      simp only [laws_toIntS.l0]
      rw [if_neg (by omega)]
      have := fill_all (fun i => l.getD i 0) (List.replicate l.length (0 : Int))
      rw [List.length_replicate] at this
      rw [this, range_id])
  refine ⟨K, fun k hk' => ?_⟩
  simp only [laws_toIntS.f]
  rw [if_pos (by omega), if_pos (by omega)]
  have e := hk k hk'
  simpa using e

theorem toKeyS_ev (l : List S50) (hi : inKeyS l) : Ev (fun k => laws_toKeyS.f k l) (l.map toK) := by
  have h : l.length ≤ 1048576 := hi
  have hl : ∀ i, i ≤ l.length → (fill (fun i => toK (l.getD i z50)) (List.replicate l.length z27) i).length = l.length := fun i hi => by rw [fill_length _ _ _ (by simpa using hi)]; simp
  obtain ⟨K, hk⟩ := evRange0 (σ := List S27) l.length (fun k s i => laws_toKeyS.l0 k l s i) (fun i s => s = fill (fun i => toK (l.getD i z50)) (List.replicate l.length z27) i) (fun _ _ => l.map toK) (List.replicate l.length z27) (fill_zero _ _).symm
    (by
      intro i s hi hs
      subst hs
      refine .inl ⟨_, rfl, rfl, 0, 1, fun k _ => ?_⟩
      have h1 := hl i (by omega)
      simp only [laws_toKeyS.l0]
      rw [if_pos (by omega), if_pos (by omega)]
      simp only [laws_toKey.f, Option.bind_some]
      rw [if_pos (by omega), w64s i (by omega), Int.toNat_natCast, fill_set _ _ _ (by simpa using hi)]
      simp [toK, rd_T50])
    (by
      intro s hs
      subst hs
      refine ⟨0, 1, fun k _ => ?_⟩
      simp only [laws_toKeyS.l0]
      rw [if_neg (by omega)]
      have := fill_all (fun i => toK (l.getD i z50)) (List.replicate l.length z27)
      rw [List.length_replicate] at this
      rw [this, range_map])
  refine ⟨K, fun k hk' => ?_⟩
  simp only [laws_toKeyS.f]
  rw [if_pos (by omega), if_pos (by omega)]
  have e := hk k hk'
  simpa using e

theorem toKeySS_ev (l : List (List S50)) (hin : inKeySS l) : Ev (fun k => laws_toKeySS.f k l) (convKeySS l) := by
  have h := inKeySS_len hin
  have hl : ∀ i, i ≤ l.length → (fill (fun i => (l.getD i []).map toK) (List.replicate l.length ([] : List S27)) i).length = l.length := fun i hi => by rw [fill_length _ _ _ (by simpa using hi)]; simp
  obtain ⟨K, hk⟩ := evRange0 (σ := List (List S27)) l.length (fun k s i => laws_toKeySS.l0 k l s i) (fun i s => s = fill (fun i => (l.getD i []).map toK) (List.replicate l.length ([] : List S27)) i) (fun _ _ => convKeySS l) (List.replicate l.length ([] : List S27)) (fill_zero _ _).symm
    (by
      intro i s hi hs
      subst hs
      have h1 := hl i (by omega)
      have hr : rd_L6 l (i : Int) = l.getD i [] := by simp [rd_L6]
      obtain ⟨K, e⟩ := toKeyS_ev (l.getD i []) (inKeySS_at hin i hi)
      refine .inl ⟨_, rfl, rfl, K, 1, fun k hk => ?_⟩
      have e1 := e k hk
      simp only at e1
      simp only [laws_toKeySS.l0, hr, e1, Option.bind_some]
      rw [if_pos (by omega), if_pos (by omega), if_pos (by omega), w64s i (by omega), Int.toNat_natCast, fill_set _ _ _ (by simpa using hi) rfl])
    (by
      intro s hs
      subst hs
      refine ⟨0, 1, fun k _ => ?_⟩
      simp only [laws_toKeySS.l0]
      rw [if_neg (by omega)]
      have := fill_all (fun i => (l.getD i []).map toK) (List.replicate l.length ([] : List S27))
      rw [List.length_replicate] at this
      rw [this, range_map (fun x => x.map toK) l []]
      rfl)
  refine ⟨K, fun k hk' => ?_⟩
  simp only [laws_toKeySS.f]
  rw [if_pos (by omega), if_pos (by omega)]
  have e := hk k hk'
  simp only [Int.toNat_natCast]
  exact e

theorem toNode_ev (l : List (List S50)) (hin : inKeySS l) : Ev (fun k => laws_toNode.f k l) (convKeySS l) := by
  obtain ⟨K, e⟩ := toKeySS_ev l hin
  refine ⟨K, fun k hk => ?_⟩
  have e1 := e k hk
  simp only at e1
  simp only [laws_toNode.f, e1, Option.bind_some]

theorem toNodeS_ev (l : List (S24)) (hin : inNodeS l) : Ev (fun k => laws_toNodeS.f k l) (convNodeS l) := by
  have h := inNodeS_len hin
  have hl : ∀ i, i ≤ l.length → (fill (fun i => (⟨convKeySS (l.getD i z24).f0⟩ : S32)) (List.replicate l.length (z32 : S32)) i).length = l.length := fun i hi => by rw [fill_length _ _ _ (by simpa using hi)]; simp
  obtain ⟨K, hk⟩ := evRange0 (σ := List (S32)) l.length (fun k s i => laws_toNodeS.l0 k l s i) (fun i s => s = fill (fun i => (⟨convKeySS (l.getD i z24).f0⟩ : S32)) (List.replicate l.length (z32 : S32)) i) (fun _ _ => convNodeS l) (List.replicate l.length (z32 : S32)) (fill_zero _ _).symm
    (by
      intro i s hi hs
      subst hs
      have h1 := hl i (by omega)
      have hr : rd_T24 l (i : Int) = l.getD i z24 := by simp [rd_T24]
      obtain ⟨K, e⟩ := toNode_ev (l.getD i z24).f0 (inNodeS_at hin i hi)
      refine .inl ⟨_, rfl, rfl, K, 1, fun k hk => ?_⟩
      have e1 := e k hk
      simp only at e1
      simp only [laws_toNodeS.l0, hr, e1, Option.bind_some]
      rw [if_pos (by omega), if_pos (by omega), if_pos (by omega), w64s i (by omega), Int.toNat_natCast, fill_set _ _ _ (by simpa using hi) rfl])
    (by
      intro s hs
      subst hs
      refine ⟨0, 1, fun k _ => ?_⟩
      simp only [laws_toNodeS.l0]
      rw [if_neg (by omega)]
      have := fill_all (fun i => (⟨convKeySS (l.getD i z24).f0⟩ : S32)) (List.replicate l.length (z32 : S32))
      rw [List.length_replicate] at this
      rw [this, range_map (fun x => (⟨convKeySS x.f0⟩ : S32)) l z24]
      rfl)
  refine ⟨K, fun k hk' => ?_⟩
  simp only [laws_toNodeS.f]
  rw [if_pos (by omega), if_pos (by omega)]
  have e := hk k hk'
  simp only [Int.toNat_natCast]
  exact e

theorem toTree_ev (l : List Int) (n : List S24) (h1 : inIntS l) (h2 : inNodeS n) : Ev (fun k => laws_toTree.f k l n) (l, convNodeS n) := by
  obtain ⟨K, e⟩ := toIntS_ev l h1
  obtain ⟨K2, e2⟩ := toNodeS_ev n h2
  refine ⟨K + K2, fun k hk => ?_⟩
  have a1 := e k (by omega)
  have a2 := e2 k (by omega)
  simp only at a1 a2
  simp only [laws_toTree.f, a1, a2, Option.bind_some]

def at6 : Option S27 → Int × Int × Int × Int × Int × Bool
  | some x => (x.f0, x.f1, x.f2, x.f3, x.f4, true)
  | none => (0, 0, 0, 0, 0, false)
def setAt (l : List S27) (a b : Int) : Option S27 := l.find? fun x => decide (x.f0 = a) && decide (x.f1 = b)

theorem spec_SetAt_ev (l : List S27) (a b : Int) (h : l.length ≤ 4194304) : Ev (fun k => spec_SetAt.f k l a b) (at6 (setAt l a b)) := by
  obtain ⟨K, hk⟩ := evRange0 (σ := Unit) l.length (fun k _ i => spec_SetAt.l0 k l a b i) (fun _ _ => True) (fun i _ => at6 (setAt (l.drop i) a b)) () trivial
    (by
      intro i _ hi _
      have hd := drop_getD l i z27 hi
      have hr : rd_T27 l (i : Int) = l.getD i z27 := by simp [rd_T27]
      generalize l.getD i z27 = y at *
      by_cases h1 : y.f0 = a ∧ y.f1 = b
      · refine .inr ⟨0, 1, fun k _ => ?_⟩
        simp only [spec_SetAt.l0, hr]
        rw [if_pos (by omega), if_pos (by omega), if_pos h1.1, if_pos h1.2, hd, setAt, List.find?_cons_of_pos (by simp [h1])]
        rfl
      · refine .inl ⟨(), trivial, ?_, 0, 1, fun k _ => ?_⟩
        · rw [hd, setAt, setAt, List.find?_cons_of_neg (by simpa using h1)]
        · simp only [spec_SetAt.l0, hr]
          rw [if_pos (by omega), if_pos (by omega), w64s i (by omega)]
          by_cases h2 : y.f0 = a
          · rw [if_pos h2, if_neg (fun h3 => h1 ⟨h2, h3⟩)]
          · rw [if_neg h2])
    (by
      intro _ _
      refine ⟨0, 1, fun k _ => ?_⟩
      simp only [spec_SetAt.l0]
      rw [if_neg (by omega)]
      simp [setAt, at6])
  exact ⟨K, fun k hk' => hk k hk'⟩

/-! From the last set to the first. -/
def nodeGo (l : List (List S27)) (a b : Int) : Nat → Int × Int × Int × Int × Int × Bool
  | 0 => (0, 0, 0, 0, 0, false)
  | n + 1 => match setAt (l.getD n []) a b with
    | none => nodeGo l a b n
    | some x => if x.f2 = 0 then (0, 0, 0, 0, 0, false) else (x.f0, x.f1, x.f2, x.f3, x.f4, true)
def nodeAt (l : List (List S27)) (a b : Int) : Int × Int × Int × Int × Int × Bool := nodeGo l a b l.length

theorem spec_NodeAt_l0 (l : List (List S27)) (a b : Int) (ho : okKeySS l) : ∀ n, n ≤ l.length → Ev (fun k => spec_NodeAt.l0 k a b ((n : Int) - 1) l) (nodeGo l a b n) := by
  have h := okKeySS_len ho
  intro n
  induction n with
  | zero =>
    intro _
    refine evSucc ⟨0, 1, fun k _ => ?_⟩
    simp only [spec_NodeAt.l0]
    rw [if_neg (by omega)]
    rfl
  | succ n ih =>
    intro hn
    obtain ⟨K, e⟩ := ih (by omega)
    obtain ⟨K2, e2⟩ := spec_SetAt_ev (l.getD n []) a b (okKeySS_at ho n (by omega))
    refine evSucc ⟨K + K2, 2, fun k hk => ?_⟩
    have a1 := e k (by omega)
    have a2 := e2 (k + 1) (by omega)
    have hc : ((n + 1 : Nat) : Int) - 1 = (n : Int) := by omega
    have hr : rd_L2 l (n : Int) = l.getD n [] := by simp [rd_L2]
    simp only at a1 a2
    simp only [spec_NodeAt.l0, hc, hr, a2, Option.bind_some, nodeGo, spec_NodeAt.j1]
    rw [if_pos (by omega), if_pos (by omega), if_pos (by omega)]
    generalize setAt (l.getD n []) a b = o
    cases o with
    | none =>
      simp only [at6, Bool.false_eq_true, if_false]
      rw [w64 (by omega) (by omega)]
      exact a1
    | some x =>
      by_cases c : x.f2 = 0
      · simp [at6, c]
      · simp [at6, c]
theorem spec_NodeAt_ev (l : List (List S27)) (a b : Int) (ho : okKeySS l) : Ev (fun k => spec_NodeAt.f k l a b) (nodeAt l a b) := by
  obtain ⟨K, e⟩ := spec_NodeAt_l0 l a b ho l.length (Nat.le_refl _)
  have h := okKeySS_len ho
  refine ⟨K, fun k hk => ?_⟩
  simp only [spec_NodeAt.f]
  rw [w64 (by omega) (by omega)]
  exact e k hk

def spotOf (a b : Int) : Int := wrap64 (wrap64 (64 * a) + b)
/-- The last low at most x, or -1: counted down from n. -/
def whereGo (l : List Int) (x : Int) : Nat → Int
  | 0 => -1
  | n + 1 => if l.getD n 0 ≤ x then (n : Int) else whereGo l x n
theorem whereGo_range (l : List Int) (x : Int) : ∀ n, -1 ≤ whereGo l x n ∧ whereGo l x n < n
  | 0 => by simp [whereGo]
  | n + 1 => by
    have := whereGo_range l x n
    simp only [whereGo]
    split <;> omega

theorem spec_WhereIn_ev (l : List Int) (n : List S32) (a b : Int) (h : l.length ≤ 4194304) : Ev (fun k => spec_WhereIn.f k l n a b) (whereGo l (spotOf a b) l.length) := by
  obtain ⟨K, hk⟩ := evRange0 (σ := Int) l.length (fun k s i => spec_WhereIn.l0 k a b s i l n) (fun i s => s = whereGo l (spotOf a b) i) (fun _ _ => whereGo l (spotOf a b) l.length) (-1) rfl
    (by
      rintro i s hi rfl
      refine .inl ⟨whereGo l (spotOf a b) (i + 1), rfl, rfl, 0, 1, fun k _ => ?_⟩
      simp only [spec_WhereIn.l0, rd_nat, spec_SpotOf.f, Option.bind_some, whereGo]
      rw [if_pos (by omega), if_pos (by omega), w64s i (by omega)]
      show (if l.getD i 0 ≤ spotOf a b then _ else _) = _
      by_cases c : l.getD i 0 ≤ spotOf a b
      · rw [if_pos c, if_pos c]
      · rw [if_neg c, if_neg c])
    (by
      rintro s rfl
      refine ⟨0, 1, fun k _ => ?_⟩
      simp only [spec_WhereIn.l0]
      rw [if_neg (by omega)])
  exact ⟨K, fun k hk' => hk k hk'⟩

theorem spec_l1In_f (a b c : Int) : spec_l1In.f a b c = some (decide (b ≤ a ∧ a ≤ c)) := by
  unfold spec_l1In.f
  by_cases h : a ≥ b
  · rw [if_pos h]; congr 1; rw [Bool.eq_iff_iff]; simp; omega
  · rw [if_neg h]; congr 1; rw [Bool.eq_iff_iff]; simp; omega

def treeAt (l : List Int) (n : List S32) (a b : Int) : Int × Int × Int × Int × Int × Bool :=
  if 0 ≤ whereGo l (spotOf a b) l.length ∧ whereGo l (spotOf a b) l.length ≤ (n.length : Int) - 1 then nodeAt (n.getD (whereGo l (spotOf a b) l.length).toNat z32).f0 a b else (0, 0, 0, 0, 0, false)

theorem spec_TreeAt_ev (l : List Int) (n : List S32) (a b : Int) (h : l.length ≤ 4194304) (ho : okNodeS n) : Ev (fun k => spec_TreeAt.f k l n a b) (treeAt l n a b) := by
  have hn := okNodeS_len ho
  obtain ⟨K, e⟩ := spec_WhereIn_ev l n a b h
  unfold treeAt
  generalize whereGo l (spotOf a b) l.length = i at *
  by_cases c : 0 ≤ i ∧ i ≤ (n.length : Int) - 1
  · obtain ⟨K2, e2⟩ := spec_NodeAt_ev (n.getD i.toNat z32).f0 a b (okNodeS_at ho i.toNat (by omega))
    refine ⟨K + K2, fun k hk => ?_⟩
    have a1 := e k (by omega)
    have a2 := e2 k (by omega)
    have hr : rd_T32 n i = n.getD i.toNat z32 := rfl
    simp only at a1 a2
    simp only [spec_TreeAt.f, a1, Option.bind_some, spec_l1In_f, hr, a2]
    rw [w64 (x := (n.length : Int) - 1) (by omega) (by omega), if_pos (by simpa using c), if_pos (by omega), if_pos (by omega), if_pos c]
  · refine ⟨K, fun k hk => ?_⟩
    have a1 := e k (by omega)
    simp only at a1
    simp only [spec_TreeAt.f, a1, Option.bind_some, spec_l1In_f]
    rw [w64 (x := (n.length : Int) - 1) (by omega) (by omega), if_neg (by simpa using c), if_neg c]

theorem impl_SetAt_ev (l : List S27) (a b : Int) (h : l.length ≤ 4194304) : Ev (fun k => impl_SetAt.f k l a b) (at6 (setAt l a b)) := by
  obtain ⟨K, hk⟩ := evRange0 (σ := Unit) l.length (fun k _ i => impl_SetAt.l0 k a b l (l.length : Int) i) (fun _ _ => True) (fun i _ => at6 (setAt (l.drop i) a b)) () trivial
    (by
      intro i _ hi _
      have hd := drop_getD l i z27 hi
      have hr : rd_T27 l (i : Int) = l.getD i z27 := by simp [rd_T27]
      generalize l.getD i z27 = y at *
      by_cases h1 : y.f0 = a ∧ y.f1 = b
      · refine .inr ⟨0, 1, fun k _ => ?_⟩
        simp only [impl_SetAt.l0, hr]
        rw [if_pos (by omega), if_pos (by omega), if_pos (by omega), if_pos h1.1, if_pos h1.2, hd, setAt, List.find?_cons_of_pos (by simp [h1])]
        rfl
      · refine .inl ⟨(), trivial, ?_, 0, 1, fun k _ => ?_⟩
        · rw [hd, setAt, setAt, List.find?_cons_of_neg (by simpa using h1)]
        · simp only [impl_SetAt.l0, hr]
          rw [if_pos (by omega), if_pos (by omega), if_pos (by omega), w64s i (by omega)]
          by_cases h2 : y.f0 = a
          · rw [if_pos h2, if_neg (fun h3 => h1 ⟨h2, h3⟩)]
          · rw [if_neg h2])
    (by
      intro _ _
      refine ⟨0, 1, fun k _ => ?_⟩
      simp only [impl_SetAt.l0]
      rw [if_neg (by omega)]
      simp [setAt, at6])
  exact ⟨K, fun k hk' => hk k hk'⟩

theorem impl_NodeAt_l0 (l : List (List S27)) (a b : Int) (ho : okKeySS l) : ∀ n, n ≤ l.length → Ev (fun k => impl_NodeAt.l0 k a b ((n : Int) - 1) l) (nodeGo l a b n) := by
  have h := okKeySS_len ho
  intro n
  induction n with
  | zero =>
    intro _
    refine evSucc ⟨0, 1, fun k _ => ?_⟩
    simp only [impl_NodeAt.l0]
    rw [if_neg (by omega)]
    rfl
  | succ n ih =>
    intro hn
    obtain ⟨K, e⟩ := ih (by omega)
    obtain ⟨K2, e2⟩ := impl_SetAt_ev (l.getD n []) a b (okKeySS_at ho n (by omega))
    refine evSucc ⟨K + K2, 1, fun k hk => ?_⟩
    have a1 := e k (by omega)
    have a2 := e2 k (by omega)
    have hc : ((n + 1 : Nat) : Int) - 1 = (n : Int) := by omega
    have hr : rd_L2 l (n : Int) = l.getD n [] := by simp [rd_L2]
    simp only at a1 a2
    simp only [impl_NodeAt.l0, hc, hr, a2, Option.bind_some, nodeGo]
    rw [if_pos (by omega), if_pos (by omega), if_pos (by omega)]
    generalize setAt (l.getD n []) a b = o
    cases o with
    | none =>
      simp only [at6, Bool.false_eq_true, if_false]
      rw [w64 (by omega) (by omega)]
      exact a1
    | some x =>
      by_cases c : x.f2 = 0
      · simp [at6, c]
      · simp [at6, c]
theorem impl_NodeAt_ev (l : List (List S27)) (a b : Int) (ho : okKeySS l) : Ev (fun k => impl_NodeAt.f k l a b) (nodeAt l a b) := by
  obtain ⟨K, e⟩ := impl_NodeAt_l0 l a b ho l.length (Nat.le_refl _)
  have h := okKeySS_len ho
  refine ⟨K, fun k hk => ?_⟩
  simp only [impl_NodeAt.f]
  rw [w64 (by omega) (by omega)]
  exact e k hk

theorem impl_WhereIn_l0 (l : List Int) (n : List S32) (a b : Int) (h : l.length ≤ 4194304) : ∀ m, m ≤ l.length → Ev (fun k => impl_WhereIn.l0 k a b ((m : Int) - 1) l n) (whereGo l (spotOf a b) m) := by
  intro m
  induction m with
  | zero =>
    intro _
    refine evSucc ⟨0, 1, fun k _ => ?_⟩
    simp only [impl_WhereIn.l0]
    rw [if_neg (by omega)]
    rfl
  | succ m ih =>
    intro hm
    obtain ⟨K, e⟩ := ih (by omega)
    refine evSucc ⟨K, 1, fun k hk => ?_⟩
    have e1 := e k hk
    have hc : ((m + 1 : Nat) : Int) - 1 = (m : Int) := by omega
    simp only at e1
    simp only [impl_WhereIn.l0, hc, rd_nat, impl_SpotOf.f, Option.bind_some, whereGo]
    rw [if_pos (by omega), if_pos (by omega), if_pos (by omega), w64 (x := (m : Int) - 1) (by omega) (by omega), e1]
    show (if l.getD m 0 ≤ spotOf a b then _ else _) = _
    by_cases c : l.getD m 0 ≤ spotOf a b
    · rw [if_pos c, if_pos c]
    · rw [if_neg c, if_neg c]
theorem impl_WhereIn_ev (l : List Int) (n : List S32) (a b : Int) (h : l.length ≤ 4194304) : Ev (fun k => impl_WhereIn.f k l n a b) (whereGo l (spotOf a b) l.length) := by
  obtain ⟨K, e⟩ := impl_WhereIn_l0 l n a b h l.length (Nat.le_refl _)
  refine ⟨K, fun k hk => ?_⟩
  simp only [impl_WhereIn.f]
  rw [w64 (by omega) (by omega)]
  exact e k hk

theorem impl_within_f (a b c : Int) : impl_within.f a b c = some (decide (b ≤ a ∧ a ≤ c)) := by
  unfold impl_within.f
  by_cases h : a ≥ b
  · rw [if_pos h]; congr 1; rw [Bool.eq_iff_iff]; simp; omega
  · rw [if_neg h]; congr 1; rw [Bool.eq_iff_iff]; simp; omega

theorem impl_TreeAt_ev (l : List Int) (n : List S32) (a b : Int) (h : l.length ≤ 4194304) (ho : okNodeS n) : Ev (fun k => impl_TreeAt.f k l n a b) (treeAt l n a b) := by
  have hn := okNodeS_len ho
  obtain ⟨K, e⟩ := impl_WhereIn_ev l n a b h
  unfold treeAt
  generalize whereGo l (spotOf a b) l.length = i at *
  by_cases c : 0 ≤ i ∧ i ≤ (n.length : Int) - 1
  · obtain ⟨K2, e2⟩ := impl_NodeAt_ev (n.getD i.toNat z32).f0 a b (okNodeS_at ho i.toNat (by omega))
    refine ⟨K + K2, fun k hk => ?_⟩
    have a1 := e k (by omega)
    have a2 := e2 k (by omega)
    have hr : rd_T32 n i = n.getD i.toNat z32 := rfl
    simp only at a1 a2
    simp only [impl_TreeAt.f, a1, Option.bind_some, impl_within_f, hr, a2]
    rw [w64 (x := (n.length : Int) - 1) (by omega) (by omega), if_pos (by simpa using c), if_pos (by omega), if_pos (by omega), if_pos c]
  · refine ⟨K, fun k hk => ?_⟩
    have a1 := e k (by omega)
    simp only at a1
    simp only [impl_TreeAt.f, a1, Option.bind_some, impl_within_f]
    rw [w64 (x := (n.length : Int) - 1) (by omega) (by omega), if_neg (by simpa using c), if_neg c]

theorem FnExactTreeAt (l0_0 : List (Int)) (l0_1 : List (S24)) (a1 : Int) (a2 : Int) (h0 : (l0_0.length ≤ 9223372036854775807 ∧ ∀ y0 ∈ l0_0, (Lit.int .i64 y0).wf = true) ∧ (l0_1.length ≤ 9223372036854775807 ∧ ∀ y0 ∈ l0_1, ((y0.f0.length ≤ 9223372036854775807 ∧ ∀ y1 ∈ y0.f0, (y1.length ≤ 9223372036854775807 ∧ ∀ y2 ∈ y1, ((Lit.int .i64 y2.f0).wf = true ∧ (Lit.int .i64 y2.f1).wf = true ∧ (Lit.int .i64 y2.f2).wf = true ∧ (Lit.int .i64 y2.f3).wf = true ∧ (Lit.int .i64 y2.f4).wf = true)))))) (h1 : (Lit.int .i64 a1).wf = true) (h2 : (Lit.int .i64 a2).wf = true) : ∃ k, laws_FnExactTreeAt.f k l0_0 l0_1 a1 a2 = some true := by
  apply Ev.rounds
  unfold laws_FnExactTreeAt.f
  have u0_0 := sumIntS_nn l0_0
  have u0_1 := sumNodeS_pos l0_1
  have u0_2 : sumTree l0_0 l0_1 = sumIntS l0_0 + sumNodeS l0_1 := rfl
  by_cases c0 : 1048576 < sumTree l0_0 l0_1
  · refine Ev.bind (szTree_big l0_0 l0_1 _ h0.1.1 ⟨h0.2.1, fun x hx => ⟨(h0.2.2 x hx).1, fun y hy => ((h0.2.2 x hx).2 y hy).1⟩⟩ (by omega) (by omega) c0) ?_
    simp only [if_pos (show (-1 : Int) < 0 by decide)]; exact Ev.now _
  refine Ev.bind (szTree_fit l0_0 l0_1 _ h0.1.1 ⟨h0.2.1, fun x hx => ⟨(h0.2.2 x hx).1, fun y hy => ((h0.2.2 x hx).2 y hy).1⟩⟩ (by omega) (by omega) c0) ?_
  simp only [if_neg (show ¬ (1048576 - sumTree l0_0 l0_1 : Int) < 0 by omega)]
  have i0_0 : inIntS l0_0 := in_of_sumIntS (by omega)
  have i0_1 : inNodeS l0_1 := in_of_sumNodeS (by omega)
  have o0_0 : okIntS l0_0 := ok_of_inIntS i0_0
  have o0_1 : okNodeS (convNodeS l0_1) := ok_of_inNodeS i0_1
  repeat' (first
    | exact Ev.now _
    | (refine Ev.bind (toTree_ev _ _ (by assumption) (by assumption)) ?_)
    | (refine Ev.bind (eqTree_ev _ _ (by assumption) (by assumption)) ?_)
    | (refine Ev.bind (impl_TreeAt_ev _ _ _ _ (by assumption) (by assumption)) ?_)
    | (refine Ev.bind (spec_TreeAt_ev _ _ _ _ (by assumption) (by assumption)) ?_)
    | (simp only [Option.bind_some, ↓reduceIte, bne_self_eq_false, Bool.false_eq_true, Bool.not_true, eq_self, eqKey_same])
    | (refine Ev.step (fun _ => rfl) ?_; simp only [laws_FnExactTreeAt.j0]))

end Go.Proofs.Ythpfihklkcnckaa.Pure
