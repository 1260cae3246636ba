/- The law: the functions that it reaches, each with the proof that the machine's call comes to its answer, what they answer, and the law's row; each theorem says its conditions itself. -/
import Derived.Test.YthpfihklkcnckaaZFnExactNodePut4
import Derived.ChangeArms
import Derived.ChangeShapes
import Derived.WideShapes
import Derived.Test.YthpfihklkcnckaaRows
import Derived.WalkKit
import Derived.ProofKit
import Derived.OpenShut
import Derived.ShutString
import Derived.ChangeOld
import Derived.Below
import Derived.SizedLaws
namespace Go.Proofs.Ythpfihklkcnckaa.Pure
open Go.RowKit Go.Proofs.Ythpfihklkcnckaa.PFnExactNodePut Go.Proofs.Ythpfihklkcnckaa.Core Go.Proofs.YthpfihklkcnckaaW.PrintWords Go.Proofs.YthpfihklkcnckaaW.PrintLast Go.Proofs.YthpfihklkcnckaaW.PrintMore
set_option linter.unusedSimpArgs false
set_option linter.unusedVariables false
def toK (x : S50) : S27 := ⟨x.f0, x.f1, x.f2, x.f3, x.f4⟩
def okKeyS (l : List S27) : Prop := l.length ≤ 4194304
def cntKeyS (l : List S27) : Int := 5 * l.length
def inKeyS (l : List S50) : Prop := l.length ≤ 1048576
def sumKeyS (l : List S50) : Int := l.length
theorem sumKeyS_nn (l : List S50) : 0 ≤ sumKeyS l := by unfold sumKeyS; omega
theorem in_of_sumKeyS {l : List S50} (h : sumKeyS l ≤ 1048576) : inKeyS l := by unfold sumKeyS at h; unfold inKeyS; omega
def goodK (x : S50) : Prop := (Lit.int .i64 x.f0).wf = true ∧ (Lit.int .i64 x.f1).wf = true ∧ (Lit.int .i64 x.f2).wf = true ∧ (Lit.int .i64 x.f3).wf = true ∧ (Lit.int .i64 x.f4).wf = true
theorem szKeyS_f (l : List S50) (a : Int) (hl : l.length ≤ 9223372036854775807) (h0 : 0 ≤ a) (h1 : a ≤ 1048576) : laws_szKeyS.f l a = some (if a < sumKeyS l then -1 else a - sumKeyS l) := by
 unfold laws_szKeyS.f sumKeyS
 rw [w64 (by omega) (by omega)]
 by_cases h : a < (l.length : Int)
 ·rw [if_pos (by omega), if_pos h]
 ·rw [if_neg (by omega), if_neg h]
theorem szKeyS_big (l : List S50) (a : Int) (hl : l.length ≤ 9223372036854775807) (h0 : 0 ≤ a) (h1 : a ≤ 1048576) (h : a < sumKeyS l) : Ev (fun _ => laws_szKeyS.f l a) (-1) := evOf fun _ => by rw [szKeyS_f l a hl h0 h1, if_pos h]
theorem szKeyS_fit (l : List S50) (a : Int) (hl : l.length ≤ 9223372036854775807) (h0 : 0 ≤ a) (h1 : a ≤ 1048576) (h : ¬ a < sumKeyS l) : Ev (fun _ => laws_szKeyS.f l a) (a - sumKeyS l) := evOf fun _ => by rw [szKeyS_f l a hl h0 h1, if_neg h]
def convKeySS (l : List (List S50)) : List (List S27) := l.map fun x => x.map toK
def sumKeySS : List (List S50) → Int
 | [] => 0
 | x :: xs => 1 + sumKeyS x + sumKeySS xs
theorem sumKeySS_nn : ∀ l : List (List S50), (l.length : Int) ≤ sumKeySS l
 | [] => by simp [sumKeySS]
 | x :: xs => by
  have := sumKeySS_nn xs
  have := sumKeyS_nn x
  simp only [sumKeySS, List.length_cons]
  omega
theorem sumKeySS_pos (l : List (List S50)) : 0 ≤ sumKeySS l := by have := sumKeySS_nn l; omega
theorem sumKeySS_at : ∀ (l : List (List S50)) (i : Nat), i < l.length → 1 + sumKeyS (l.getD i []) + sumKeySS (l.drop (i + 1)) = sumKeySS (l.drop i) := by
 intro l i hi
 rw [drop_getD l i [] hi]
 rfl
theorem sumKeySS_drop : ∀ (l : List (List S50)) (i : Nat), sumKeySS (l.drop i) ≤ sumKeySS l
 | [], i => by simp
 | x :: xs, 0 => by simp
 | x :: xs, i + 1 => by
  have := sumKeySS_drop xs i
  have := sumKeyS_nn x
  simp only [List.drop_succ_cons, sumKeySS]
  omega
def inKeySS (l : List (List S50)) : Prop := sumKeySS l ≤ 1048576
theorem in_of_sumKeySS {l : List (List S50)} (h : sumKeySS l ≤ 1048576) : inKeySS l := h
theorem inKeySS_len {l : List (List S50)} (h : inKeySS l) : l.length ≤ 1048576 := by have := sumKeySS_nn l; unfold inKeySS at h; omega
theorem inKeySS_at {l : List (List S50)} (h : inKeySS l) (i : Nat) (hi : i < l.length) : inKeyS (l.getD i []) := by
 have h1 := sumKeySS_at l i hi
 have h2 := sumKeySS_drop l i
 have h3 := sumKeySS_nn (l.drop (i + 1))
 unfold inKeySS at h
 exact in_of_sumKeyS (by omega)
/-- What the impl's side holds, all in all. -/
def bulkKeySS : List (List S27) → Nat
 | [] => 0
 | x :: xs => 1 + x.length + bulkKeySS xs
def okKeySS (l : List (List S27)) : Prop := bulkKeySS l ≤ 4194304
theorem bulkKeySS_len : ∀ l : List (List S27), l.length ≤ bulkKeySS l
 | [] => by simp [bulkKeySS]
 | x :: xs => by have := bulkKeySS_len xs; simp only [bulkKeySS, List.length_cons]; omega
theorem bulkKeySS_at : ∀ (l : List (List S27)) (i : Nat), i < l.length → (l.getD i []).length ≤ bulkKeySS l
 | x :: xs, 0, _ => by simp only [bulkKeySS, List.getD_cons_zero]; omega
 | x :: xs, i + 1, h => by
  have := bulkKeySS_at xs i (by simpa using h)
  simp only [bulkKeySS, List.getD_cons_succ]; omega
theorem okKeySS_at {l : List (List S27)} (h : okKeySS l) (i : Nat) (hi : i < l.length) : okKeyS (l.getD i []) := by
 have h1 := bulkKeySS_at l i hi
 unfold okKeySS at h
 show (l.getD i []).length ≤ 4194304
 omega
theorem okKeySS_len {l : List (List S27)} (h : okKeySS l) : l.length ≤ 4194304 := by have := bulkKeySS_len l; unfold okKeySS at h; omega
theorem bulk_convKeySS : ∀ l : List (List S50), (bulkKeySS (convKeySS l) : Int) = sumKeySS l
 | [] => rfl
 | x :: xs => by
  have h1 := bulk_convKeySS xs
  have h2 : (((x.map toK).length : Nat) : Int) = sumKeyS x := by rw [List.length_map]; rfl
  (try simp only at h2)
  simp only [convKeySS] at h1
  simp only [convKeySS, List.map_cons, bulkKeySS, sumKeySS]
  omega
theorem ok_of_inKeySS {l : List (List S50)} (h : inKeySS l) : okKeySS (convKeySS l) := by
 have := bulk_convKeySS l
 unfold inKeySS at h
 unfold okKeySS
 omega
def goodKeySS (l : List (List S50)) : Prop := l.length ≤ 9223372036854775807 ∧ ∀ x ∈ l, x.length ≤ 9223372036854775807
theorem szKeySS_l0 (l : List (List S50)) (hg : goodKeySS l) : ∀ (d i : Nat) (s : Int), l.length - i = d → i ≤ l.length → 0 ≤ s → s ≤ 1048576 → l.length ≤ 1048576 → Ev (fun k => laws_szKeySS.l0 k l s (i : Int)) (if s < sumKeySS (l.drop i) - ((l.length : Int) - i) then -1 else s - (sumKeySS (l.drop i) - ((l.length : Int) - i))) := by
 intro d
 induction d with
 | zero =>
  intro i s hd hi h0 h1 hl
  obtain rfl : i = l.length := by omega
  refine evSucc ⟨0, 1, fun k _ => ?_⟩
  simp only [laws_szKeySS.l0]
  rw [if_neg (by omega), List.drop_length]
  rw [show sumKeySS [] = 0 from rfl, if_neg (by omega)]
  congr 1; omega
 | succ d ih =>
  intro i s hd hi h0 h1 hl
  have hlt : i < l.length := by omega
  have hs := sumKeySS_at l i hlt
  have hn := sumKeySS_nn (l.drop (i + 1))
  rw [List.length_drop] at hn
  have hr : rd_L2 l (i : Int) = l.getD i [] := by simp [rd_L2]
  have hgx := hg.2 _ (getD_mem l i [] hlt)
  generalize l.getD i [] = y at *
  have hy := sumKeyS_nn y
  by_cases c : s < sumKeyS y
  ·obtain ⟨K, e⟩ := szKeyS_big y s hgx h0 h1 c
   refine evSucc ⟨K, 1, fun k hk => ?_⟩
   have e1 := e k hk
   simp only at e1
   simp only [laws_szKeySS.l0, hr, e1, Option.bind_some]
   rw [if_pos (by omega), if_pos (by omega), if_pos (by decide), if_pos (by omega)]
  ·obtain ⟨K, e⟩ := szKeyS_fit y s hgx h0 h1 c
   obtain ⟨K2, e2⟩ := ih (i + 1) (s - sumKeyS y) (by omega) (by omega) (by omega) (by omega) hl
   refine evSucc ⟨K + K2, 1, fun k hk => ?_⟩
   have e1 := e k (by omega)
   have e3 := e2 k (by omega)
   simp only at e1 e3
   simp only [laws_szKeySS.l0, hr, e1, Option.bind_some]
   rw [if_pos (by omega), if_pos (by omega), if_neg (by omega), w64s i (by omega), e3]
   have hc : ((i + 1 : Nat) : Int) = (i : Int) + 1 := by omega
   rw [hc]
   by_cases c2 : s - sumKeyS y < sumKeySS (l.drop (i + 1)) - ((l.length : Int) - ((i : Int) + 1))
   ·rw [if_pos c2, if_pos (by omega)]
   ·rw [if_neg c2, if_neg (by omega)]; congr 1; omega
theorem szKeySS_big (l : List (List S50)) (a : Int) (hg : goodKeySS l) (h0 : 0 ≤ a) (h1 : a ≤ 1048576) (h : a < sumKeySS l) : Ev (fun k => laws_szKeySS.f k l a) (-1) := by
 have hn := hg.1
 by_cases c : a < l.length
 ·refine evOf fun k => ?_
  simp only [laws_szKeySS.f]
  rw [w64 (by omega) (by omega), if_pos (by omega)]
 ·obtain ⟨K, e⟩ := szKeySS_l0 l hg _ 0 (a - l.length) rfl (Nat.zero_le _) (by omega) (by omega) (by omega)
  refine ⟨K, fun k hk => ?_⟩
  have e1 := e k hk
  simp only [laws_szKeySS.f]
  rw [w64 (by omega) (by omega), if_neg (by omega)]
  simp only [List.drop_zero, Int.natCast_zero] at e1
  rw [if_pos (by omega)] at e1
  exact e1
theorem szKeySS_fit (l : List (List S50)) (a : Int) (hg : goodKeySS l) (h0 : 0 ≤ a) (h1 : a ≤ 1048576) (h : ¬ a < sumKeySS l) : Ev (fun k => laws_szKeySS.f k l a) (a - sumKeySS l) := by
 have hn := sumKeySS_nn l
 obtain ⟨K, e⟩ := szKeySS_l0 l hg _ 0 (a - l.length) rfl (Nat.zero_le _) (by omega) (by omega) (by omega)
 refine ⟨K, fun k hk => ?_⟩
 have e1 := e k hk
 simp only [laws_szKeySS.f]
 rw [w64 (by omega) (by omega), if_neg (by omega)]
 simp only [List.drop_zero, Int.natCast_zero] at e1
 rw [if_neg (by omega)] at e1
 rw [show a - sumKeySS l = a - ↑l.length - (sumKeySS l - (↑l.length - 0)) by omega]
 exact e1
theorem szNode_big (l : List (List S50)) (a : Int) (hg : goodKeySS l) (h0 : 0 ≤ a) (h1 : a ≤ 1048576) (h : a < sumKeySS l) : Ev (fun k => laws_szNode.f k l a) (-1) := by
 obtain ⟨K, e⟩ := szKeySS_big l a hg h0 h1 h
 refine ⟨K, fun k hk => ?_⟩
 have e1 := e k hk
 simp only at e1
 simp only [laws_szNode.f, e1, Option.bind_some]
 rfl
theorem szNode_fit (l : List (List S50)) (a : Int) (hg : goodKeySS l) (h0 : 0 ≤ a) (h1 : a ≤ 1048576) (h : ¬ a < sumKeySS l) : Ev (fun k => laws_szNode.f k l a) (a - sumKeySS l) := by
 obtain ⟨K, e⟩ := szKeySS_fit l a hg h0 h1 h
 refine ⟨K, fun k hk => ?_⟩
 have e1 := e k hk
 simp only at e1
 simp only [laws_szNode.f, e1, Option.bind_some]
 rw [if_neg (by omega)]
theorem toKeyS_ev (l : List S50) (hi : inKeyS l) : Ev (fun k => laws_toKeyS.f k l) (l.map toK) := by
 have h : l.length ≤ 1048576 := hi
 have hl : ∀ i, i ≤ l.length → (fill (fun i => toK (l.getD i z50)) (List.replicate l.length z27) i).length = l.length := fun i hi => by rw [fill_length _ _ _ (by simpa using hi)]; simp
 obtain ⟨K, hk⟩ := evRange0 (σ := List S27) l.length (fun k s i => laws_toKeyS.l0 k l s i) (fun i s => s = fill (fun i => toK (l.getD i z50)) (List.replicate l.length z27) i) (fun _ _ => l.map toK) (List.replicate l.length z27) (fill_zero _ _).symm
  (by
   intro i s hi hs
   subst hs
   refine .inl ⟨_, rfl, rfl, 0, 1, fun k _ => ?_⟩
   have h1 := hl i (by omega)
   simp only [laws_toKeyS.l0]
   rw [if_pos (by omega), if_pos (by omega)]
   simp only [laws_toKey.f, Option.bind_some]
   rw [if_pos (by omega), w64s i (by omega), Int.toNat_natCast, fill_set _ _ _ (by simpa using hi)]
   simp [toK, rd_T50])
  (by
   intro s hs
   subst hs
   refine ⟨0, 1, fun k _ => ?_⟩
   simp only [laws_toKeyS.l0]
   rw [if_neg (by omega)]
   have := fill_all (fun i => toK (l.getD i z50)) (List.replicate l.length z27)
   rw [List.length_replicate] at this
   rw [this, range_map])
 refine ⟨K, fun k hk' => ?_⟩
 simp only [laws_toKeyS.f]
 rw [if_pos (by omega), if_pos (by omega)]
 have e := hk k hk'
 simpa using e
theorem toKeySS_ev (l : List (List S50)) (hin : inKeySS l) : Ev (fun k => laws_toKeySS.f k l) (convKeySS l) := by
 have h := inKeySS_len hin
 have hl : ∀ i, i ≤ l.length → (fill (fun i => (l.getD i []).map toK) (List.replicate l.length ([] : List S27)) i).length = l.length := fun i hi => by rw [fill_length _ _ _ (by simpa using hi)]; simp
 obtain ⟨K, hk⟩ := evRange0 (σ := List (List S27)) l.length (fun k s i => laws_toKeySS.l0 k l s i) (fun i s => s = fill (fun i => (l.getD i []).map toK) (List.replicate l.length ([] : List S27)) i) (fun _ _ => convKeySS l) (List.replicate l.length ([] : List S27)) (fill_zero _ _).symm
  (by
   intro i s hi hs
   subst hs
   have h1 := hl i (by omega)
   have hr : rd_L2 l (i : Int) = l.getD i [] := by simp [rd_L2]
   obtain ⟨K, e⟩ := toKeyS_ev (l.getD i []) (inKeySS_at hin i hi)
   refine .inl ⟨_, rfl, rfl, K, 1, fun k hk => ?_⟩
   have e1 := e k hk
   simp only at e1
   simp only [laws_toKeySS.l0, hr, e1, Option.bind_some]
   rw [if_pos (by omega), if_pos (by omega), if_pos (by omega), w64s i (by omega), Int.toNat_natCast, fill_set _ _ _ (by simpa using hi) rfl])
  (by
   intro s hs
   subst hs
   refine ⟨0, 1, fun k _ => ?_⟩
   simp only [laws_toKeySS.l0]
   rw [if_neg (by omega)]
   have := fill_all (fun i => (l.getD i []).map toK) (List.replicate l.length ([] : List S27))
   rw [List.length_replicate] at this
   rw [this, range_map (fun x => x.map toK) l []]
   rfl)
 refine ⟨K, fun k hk' => ?_⟩
 simp only [laws_toKeySS.f]
 rw [if_pos (by omega), if_pos (by omega)]
 have e := hk k hk'
 simp only [Int.toNat_natCast]
 exact e
theorem toNode_ev (l : List (List S50)) (hin : inKeySS l) : Ev (fun k => laws_toNode.f k l) (convKeySS l) := by
 obtain ⟨K, e⟩ := toKeySS_ev l hin
 refine ⟨K, fun k hk => ?_⟩
 have e1 := e k hk
 simp only at e1
 simp only [laws_toNode.f, e1, Option.bind_some]
theorem eqKey_refl (x : S27) : laws_eqKey.f x.f0 x.f1 x.f2 x.f3 x.f4 x.f0 x.f1 x.f2 x.f3 x.f4 = some true := by simp [laws_eqKey.f]
theorem eqKeyS_ev (l : List S27) (ho : okKeyS l) : Ev (fun k => laws_eqKeyS.f k l l) true := by
 have h : l.length ≤ 4194304 := ho
 obtain ⟨K, hk⟩ := evRange0 (σ := Unit) l.length (fun k _ i => laws_eqKeyS.l0 k l l i) (fun _ _ => True) (fun _ _ => true) () trivial
  (by
   intro i _ hi _
   refine .inl ⟨(), trivial, rfl, 0, 1, fun k _ => ?_⟩
   simp only [laws_eqKeyS.l0]
   rw [if_pos (by omega), if_pos (by omega), if_pos (by omega), eqKey_refl, w64s i (by omega)]
   rfl)
  (by
   intro _ _
   refine ⟨0, 1, fun k _ => ?_⟩
   simp only [laws_eqKeyS.l0]
   rw [if_neg (by omega)])
 refine ⟨K, fun k hk' => ?_⟩
 simp only [laws_eqKeyS.f]
 rw [if_pos trivial]
 exact hk k hk'
theorem eqKeySS_ev (l : List (List S27)) (ho : okKeySS l) : Ev (fun k => laws_eqKeySS.f k l l) true := by
 have h := okKeySS_len ho
 obtain ⟨K, hk⟩ := evRange0 (σ := Unit) l.length (fun k _ i => laws_eqKeySS.l0 k l l i) (fun _ _ => True) (fun _ _ => true) () trivial
  (by
   intro i _ hi _
   have hr : rd_L4 l (i : Int) = l.getD i [] := by simp [rd_L4]
   obtain ⟨K, e⟩ := eqKeyS_ev (l.getD i []) (okKeySS_at ho i hi)
   refine .inl ⟨(), trivial, rfl, K, 1, fun k hk => ?_⟩
   have e1 := e k hk
   simp only at e1
   simp only [laws_eqKeySS.l0, hr, e1, Option.bind_some]
   rw [if_pos (by omega), if_pos (by omega), if_pos (by omega), if_pos trivial, w64s i (by omega)])
  (by
   intro _ _
   refine ⟨0, 1, fun k _ => ?_⟩
   simp only [laws_eqKeySS.l0]
   rw [if_neg (by omega)])
 refine ⟨K, fun k hk' => ?_⟩
 simp only [laws_eqKeySS.f]
 rw [if_pos trivial]
 exact hk k hk'
theorem eqNode_ev (l : List (List S27)) (ho : okKeySS l) : Ev (fun k => laws_eqNode.f k l l) true := by
 obtain ⟨K, e⟩ := eqKeySS_ev l ho
 refine ⟨K, fun k hk => ?_⟩
 have e1 := e k hk
 simp only at e1
 simp only [laws_eqNode.f, e1, Option.bind_some]
 rfl
def mkK (a : Int) (i : Nat) : S27 := ⟨a + 5 * i, a + 5 * i + 1, a + 5 * i + 2, a + 5 * i + 3, a + 5 * i + 4⟩
def mkKeyS (l : List S27) (a : Int) : List S27 := (List.range l.length).map (mkK a)
theorem mkKeyS_length (l : List S27) (a : Int) : (mkKeyS l a).length = l.length := by simp [mkKeyS]
theorem markKeyS_ev (l : List S27) (a : Int) (ho : okKeyS l) (h0 : 0 ≤ a) (h1 : a ≤ 1099511627776) : Ev (fun k => laws_markKeyS.f k l a) (a + cntKeyS l, mkKeyS l a) := by
 have h : l.length ≤ 4194304 := ho
 obtain ⟨K, hk⟩ := evRange0 (σ := List S27 × Int) l.length (fun k s i => laws_markKeyS.l0 k s.1 s.2 i) (fun i s => s = (fill (mkK a) l i, a + 5 * i)) (fun _ _ => (a + cntKeyS l, mkKeyS l a)) (l, a) (by simp [fill_zero])
  (by
   intro i s hi hs
   subst hs
   refine .inl ⟨_, rfl, rfl, 0, 1, fun k _ => ?_⟩
   have hl := fill_length (mkK a) l i (by omega)
   simp only [laws_markKeyS.l0]
   rw [if_pos (by omega), if_pos (by omega)]
   simp only [Option.bind_some]
   rw [w64 (x := a + 5 * (i : Int) + 1) (by omega) (by omega), w64 (x := a + 5 * (i : Int) + 1 + 1) (by omega) (by omega), w64 (x := a + 5 * (i : Int) + 1 + 1 + 1) (by omega) (by omega), w64 (x := a + 5 * (i : Int) + 1 + 1 + 1 + 1) (by omega) (by omega), w64 (x := a + 5 * (i : Int) + 1 + 1 + 1 + 1 + 1) (by omega) (by omega), w64s i (by omega), Int.toNat_natCast]
   have hr : ∀ (m : List S27) (v : S27), i < m.length → rd_T27 (m.set i v) (i : Int) = v := fun m v hm => by simp [rd_T27, hm]
   rw [hr _ _ (by omega), hr _ _ (by simp; omega), hr _ _ (by simp; omega), hr _ _ (by simp; omega)]
   simp only [List.set_set]
   rw [fill_set (mkK a) l i hi (by simp only [mkK]; congr 1 <;> omega)]
   congr 1
   push_cast
   omega)
  (by
   intro s hs
   subst hs
   refine ⟨0, 1, fun k _ => ?_⟩
   have hl := fill_length (mkK a) l l.length (by omega)
   simp only [laws_markKeyS.l0]
   rw [if_neg (by omega), fill_all]
   rfl)
 exact ⟨K, fun k hk' => hk k hk'⟩
theorem heldKeyS_ev (l : List S27) (a : Int) (ho : okKeyS l) (h0 : 0 ≤ a) (h1 : a ≤ 1099511627776) : Ev (fun k => laws_heldKeyS.f k (mkKeyS l a) a) (a + cntKeyS l) := by
 have h : l.length ≤ 4194304 := ho
 have hl := mkKeyS_length l a
 obtain ⟨K, hk⟩ := evRange0 (σ := Int) l.length (fun k s i => laws_heldKeyS.l0 k (mkKeyS l a) s i) (fun i s => s = a + 5 * i) (fun _ _ => a + cntKeyS l) a (by simp)
  (by
   intro i s hi hs
   subst hs
   refine .inl ⟨_, rfl, rfl, 0, 1, fun k _ => ?_⟩
   have hr : rd_T27 (mkKeyS l a) (i : Int) = mkK a i := by
    unfold rd_T27 mkKeyS
    rw [Int.toNat_natCast, range_getD _ _ _ _ hi]
   simp only [laws_heldKeyS.l0]
   rw [if_pos (by omega), if_pos (by omega), hr]
   rw [w64 (x := a + 5 * (i : Int) + 1) (by omega) (by omega), w64 (x := a + 5 * (i : Int) + 1 + 1) (by omega) (by omega), w64 (x := a + 5 * (i : Int) + 1 + 1 + 1) (by omega) (by omega), w64 (x := a + 5 * (i : Int) + 1 + 1 + 1 + 1) (by omega) (by omega), w64 (x := a + 5 * (i : Int) + 1 + 1 + 1 + 1 + 1) (by omega) (by omega), w64s i (by omega)]
   rw [if_pos (show (mkK a i).f0 = a + 5 * (i : Int) from rfl), if_pos (show (mkK a i).f1 = a + 5 * (i : Int) + 1 from rfl), if_pos (show (mkK a i).f2 = a + 5 * (i : Int) + 1 + 1 by simp only [mkK]; omega), if_pos (show (mkK a i).f3 = a + 5 * (i : Int) + 1 + 1 + 1 by simp only [mkK]; omega), if_pos (show (mkK a i).f4 = a + 5 * (i : Int) + 1 + 1 + 1 + 1 by simp only [mkK]; omega)]
   congr 1
   push_cast
   omega)
  (by
   intro s hs
   subst hs
   refine ⟨0, 1, fun k _ => ?_⟩
   simp only [laws_heldKeyS.l0]
   rw [if_neg (by omega)]
   rfl)
 exact ⟨K, fun k hk' => hk k hk'⟩
theorem cntKeyS_nn' (x : List S27) : 0 ≤ cntKeyS x := by unfold cntKeyS; omega
def cntKeySS (l : List (List S27)) : Int := cntL cntKeyS l
def mkKeySS (l : List (List S27)) (a : Int) : List (List S27) := mkL mkKeyS cntKeyS l a
theorem cntKeySS_nn0 (l : List (List S27)) : 0 ≤ cntKeySS l := cntL_nn cntKeyS cntKeyS_nn' l
theorem cntKeySS_bulk : ∀ l : List (List S27), cntKeySS l ≤ 5 * (bulkKeySS l : Int)
 | [] => by simp [cntKeySS, cntL, bulkKeySS]
 | x :: xs => by
  have := cntKeySS_bulk xs
  simp only [cntKeySS] at this
  simp only [cntKeySS, cntL, bulkKeySS, cntKeyS]
  push_cast
  omega
theorem cntKeySS_nn {l : List (List S27)} (h : okKeySS l) : 0 ≤ cntKeySS l ∧ cntKeySS l ≤ 20971520 := by
 have := cntKeySS_bulk l
 have := cntKeySS_nn0 l
 unfold okKeySS at h
 omega
theorem cntKeySS_take (l : List (List S27)) (i : Nat) : 0 ≤ cntKeySS (l.take i) ∧ cntKeySS (l.take i) ≤ cntKeySS l := ⟨cntKeySS_nn0 _, cntL_take_le cntKeyS cntKeyS_nn' l i⟩
theorem heldKeySS_ev (l : List (List S27)) (a : Int) (ho : okKeySS l) (h0 : 0 ≤ a) (h1 : a ≤ 1000000000000) : Ev (fun k => laws_heldKeySS.f k (mkKeySS l a) a) (a + cntKeySS l) := by
 have h := okKeySS_len ho
 have hl : (mkKeySS l a).length = l.length := mkL_length _ _ _ _
 have hc := cntKeySS_nn ho
 obtain ⟨K, hk⟩ := evRange0 (σ := Int) l.length (fun k s i => laws_heldKeySS.l0 k (mkKeySS l a) s i) (fun i s => s = a + cntKeySS (l.take i)) (fun _ _ => a + cntKeySS l) a (by simp [cntKeySS, cntL])
  (by
   intro i s hi hs
   subst hs
   have ht := cntKeySS_take l i
   have hr : rd_L4 (mkKeySS l a) (i : Int) = mkKeyS (l.getD i []) (a + cntKeySS (l.take i)) := by
    unfold rd_L4
    rw [Int.toNat_natCast]
    exact mkL_getD mkKeyS cntKeyS [] l a i hi
   obtain ⟨K, e⟩ := heldKeyS_ev (l.getD i []) (a + cntKeySS (l.take i)) (okKeySS_at ho i hi) (by omega) (by omega)
   have hs' : cntKeySS (l.take (i + 1)) = cntKeySS (l.take i) + cntKeyS (l.getD i []) := cntL_take cntKeyS [] l i hi
   have hn := cntKeyS_nn' (l.getD i [])
   refine .inl ⟨_, rfl, rfl, K, 1, fun k hk => ?_⟩
   have e1 := e k hk
   simp only at e1
   simp only [laws_heldKeySS.l0, hr, e1, Option.bind_some]
   rw [if_pos (by omega), if_pos (by omega), if_neg (by omega), w64s i (by omega), hs']
   congr 1
   omega)
  (by
   intro s hs
   subst hs
   refine ⟨0, 1, fun k _ => ?_⟩
   simp only [laws_heldKeySS.l0]
   rw [if_neg (by omega), List.take_length])
 exact ⟨K, fun k hk' => hk k hk'⟩
theorem heldNode_ev (l : List (List S27)) (a : Int) (ho : okKeySS l) (h0 : 0 ≤ a) (h1 : a ≤ 1000000000000) : Ev (fun k => laws_heldNode.f k (mkKeySS l a) a) (a + cntKeySS l) := by
 have hc := cntKeySS_nn ho
 unfold laws_heldNode.f
 refine Ev.bind (heldKeySS_ev l a ho h0 h1) ?_
 simp only [if_neg (show ¬ a + cntKeySS l < 0 by omega)]
 exact Ev.now _
def nodeNew (l : List S27) : List (List S27) := if l.length = 0 then [] else [l]
theorem spec_NodeNew_ev (l : List S27) (h : l.length ≤ 4194304) : Ev (fun _ => spec_NodeNew.f l) (nodeNew l) := by
 refine evOf fun _ => ?_
 simp only [spec_NodeNew.f, nodeNew, Option.bind_some, List.nil_append, List.length_nil, Nat.zero_add]
 by_cases c : l.length = 0
 ·rw [if_pos (by omega), if_pos c]
 ·rw [if_neg (by omega), if_neg c, if_pos (by omega)]
theorem spec_l1In_f (a b c : Int) : spec_l1In.f a b c = some (decide (b ≤ a ∧ a ≤ c)) := by
 unfold spec_l1In.f
 by_cases h : a ≥ b
 ·rw [if_pos h]; congr 1; rw [Bool.eq_iff_iff]; simp; omega
 ·rw [if_neg h]; congr 1; rw [Bool.eq_iff_iff]; simp; omega
def keyOk5 (a b c d e : Int) : Bool := decide (0 ≤ a ∧ a ≤ 15) && (decide (1 ≤ b ∧ b ≤ 60) && (decide (0 ≤ c ∧ c ≤ 2) && if c = 1 then decide (0 ≤ d ∧ d ≤ 23) && decide (0 ≤ e ∧ e ≤ 999) else decide (d = 0) && decide (e = 0)))
theorem spec_KeyOk_ev (a b c d e : Int) : Ev (fun k => spec_KeyOk.f k a b c d e) (keyOk5 a b c d e) := by
 refine evSucc ⟨0, 1, fun k _ => ?_⟩
 simp only [spec_KeyOk.f, spec_l1In_f, Option.bind_some, spec_KeyOk.j0, keyOk5]
 cases h0 : decide (0 ≤ a ∧ a ≤ 15) <;> cases h1 : decide (1 ≤ b ∧ b ≤ 60) <;> cases h2 : decide (0 ≤ c ∧ c ≤ 2) <;> simp only [Bool.false_and, Bool.true_and, Bool.false_eq_true, if_true, if_false, Bool.not_true, Bool.not_false]
 by_cases h3 : c = 1
 ·rw [if_pos h3, if_pos h3]
  cases h4 : decide (0 ≤ d ∧ d ≤ 23) <;> simp only [Bool.false_and, Bool.true_and, Bool.false_eq_true, if_true, if_false]
 ·rw [if_neg h3, if_neg h3]
  by_cases h4 : d = 0
  ·rw [if_pos h4]; simp [h4]; rw [Bool.eq_iff_iff]; simp
  ·rw [if_neg h4]; simp [h4]
def less (a b : S27) : Bool := decide (a.f0 < b.f0 ∨ a.f0 = b.f0 ∧ a.f1 < b.f1)
def same (a b : S27) : Bool := decide (a.f0 = b.f0 ∧ a.f1 = b.f1)
def putGo (k : S27) : List S27 → Bool → List S27
 | [], p => if p then [] else [k]
 | x :: xs, p => (if p || less x k then [] else [k]) ++ ((if same x k then [] else [x]) ++ putGo k xs (p || !less x k))
def setPut (l : List S27) (k : S27) : List S27 := putGo k l false
def mergeSets (a b : List S27) : List S27 := b.foldl setPut a
def dropNone (l : List S27) : List S27 := l.filter fun x => x.f2 != 0
theorem putGo_length (k : S27) : ∀ (l : List S27) (p : Bool), (putGo k l p).length ≤ l.length + 1
 | [], p => by cases p <;> simp [putGo]
 | x :: xs, p => by
  have ih := putGo_length k xs
  have ih1 : p = true → (putGo k xs true).length ≤ xs.length := fun _ => by
   clear ih
   induction xs with
   | nil => simp [putGo]
   | cons y ys ih => simp only [putGo, Bool.true_or, if_true, List.nil_append, List.length_append, List.length_cons]; split <;> simp <;> omega
  simp only [putGo, List.length_append, List.length_cons]
  cases p with
  | true => simp only [Bool.true_or, if_true, List.length_nil]; have := ih1 rfl; split <;> simp <;> omega
  | false =>
   cases hx : less x k with
   | true => simp only [Bool.false_or, if_true, Bool.not_true, List.length_nil]; have := ih false; split <;> simp <;> omega
   | false =>
    simp only [Bool.false_or, Bool.not_false, if_false, Bool.false_eq_true, List.length_cons, List.length_nil]
    have h2 : (putGo k xs true).length ≤ xs.length := by
     clear ih ih1
     induction xs with
     | nil => simp [putGo]
     | cons y ys ih => simp only [putGo, Bool.true_or, if_true, List.nil_append, List.length_append, List.length_cons]; split <;> simp <;> omega
    split <;> simp <;> omega
theorem setPut_length (l : List S27) (k : S27) : (setPut l k).length ≤ l.length + 1 := putGo_length k l false
theorem mergeSets_length (a b : List S27) : (mergeSets a b).length ≤ a.length + b.length := by
 unfold mergeSets
 induction b generalizing a with
 | nil => simp
 | cons x xs ih => simp only [List.foldl_cons, List.length_cons]; have := ih (setPut a x); have := setPut_length a x; omega
theorem spec_LessKey_f (a b : S27) : spec_LessKey.f a.f0 a.f1 a.f2 a.f3 a.f4 b.f0 b.f1 b.f2 b.f3 b.f4 = some (less a b) := by
 unfold spec_LessKey.f less
 split
 ·simp [*]
 ·simp [*]
def keyOkB (x : S27) : Bool := keyOk5 x.f0 x.f1 x.f2 x.f3 x.f4
def risesAt (l : List S27) (j : Nat) : Bool := less (l.getD (j - 1) z27) (l.getD j z27)
def setOkB (l : List S27) : Bool := allFrom (fun j => keyOkB (l.getD j z27) && (j == 0 || risesAt l j)) l.length 0 && decide (l.length ≤ 60)
theorem spec_l4Rises_ev (l : List S27) (h : l.length ≤ 4194304) : Ev (fun k => spec_l4Rises.f k l) (allFrom (risesAt l) l.length 1) := by
 by_cases h0 : l.length = 0
 ·refine evSucc ⟨0, 1, fun k _ => ?_⟩
  simp only [spec_l4Rises.f, spec_l4Rises.l0]
  rw [if_neg (by omega)]
  simp [allFrom, h0]
 have := evAll l.length (fun k i => spec_l4Rises.l0 k l (if i = 0 then 1 else i)) (fun j => j == 0 || risesAt l j) true
  (by
   intro i hi
   by_cases hz : i = 0
   ·subst hz
    exact ⟨0, 0, fun k _ => by simp⟩
   have hr : rd_T27 l (i : Int) = l.getD i z27 := by simp [rd_T27]
   have hw := w64s i (by omega)
   have hw1 : wrap64 ((i : Int) - 1) = ((i - 1 : Nat) : Int) := by rw [w64 (by omega) (by omega)]; omega
   have hr1 : rd_T27 l ((i - 1 : Nat) : Int) = l.getD (i - 1) z27 := by simp [rd_T27]
   refine ⟨0, 1, fun k _ => ?_⟩
   rw [if_neg (show ¬ (i : Int) = 0 by omega), if_neg (show ¬ ((i + 1 : Nat) : Int) = 0 by omega)]
   simp only [spec_l4Rises.l0]
   rw [if_pos (by omega), hw1, if_pos (by omega), if_pos (by omega), if_pos (by omega), hr, hr1, spec_LessKey_f, hw]
   simp only [Option.bind_some, beq_eq_false_iff_ne.mpr hz, Bool.false_or]
   rfl)
  (by
   refine ⟨0, 1, fun k _ => ?_⟩
   rw [if_neg (show ¬ (l.length : Int) = 0 by omega)]
   simp only [spec_l4Rises.l0]
   rw [if_neg (by omega)]) 1 (by omega)
 obtain ⟨K, hk⟩ := this
 refine ⟨K, fun k hk' => ?_⟩
 have e := hk k hk'
 simp only [Bool.and_true] at e
 have e2 : allFrom (fun j => j == 0 || risesAt l j) l.length 1 = allFrom (risesAt l) l.length 1 := by
  rw [Bool.eq_iff_iff, allFrom_iff, allFrom_iff]
  constructor
  ·intro hh j h1 h2; have := hh j h1 h2; simp only [Bool.or_eq_true, beq_iff_eq] at this; rcases this with h | h; omega; exact h
  ·intro hh j h1 h2; simp [hh j h1 h2]
 rw [e2] at e
 rw [← e]
 rfl
theorem spec_SetOk_ev (l : List S27) (h : l.length ≤ 4194304) : Ev (fun k => spec_SetOk.f k l) (setOkB l) := by
 obtain ⟨K0, e0⟩ := spec_l4Rises_ev l h
 have := evAll l.length (fun k i => spec_SetOk.l0 k l i) (fun j => keyOkB (l.getD j z27)) (allFrom (risesAt l) l.length 1 && decide (l.length ≤ 60))
  (by
   intro i hi
   have hr : rd_T27 l (i : Int) = l.getD i z27 := by simp [rd_T27]
   obtain ⟨K, e⟩ := spec_KeyOk_ev (l.getD i z27).f0 (l.getD i z27).f1 (l.getD i z27).f2 (l.getD i z27).f3 (l.getD i z27).f4
   refine ⟨K, 1, fun k hk => ?_⟩
   have e1 : spec_KeyOk.f k (l.getD i z27).f0 (l.getD i z27).f1 (l.getD i z27).f2 (l.getD i z27).f3 (l.getD i z27).f4 = some (keyOkB (l.getD i z27)) := e k hk
   simp only [spec_SetOk.l0, hr, e1, Option.bind_some]
   rw [if_pos (by omega), if_pos (by omega), w64s i (by omega)])
  (by
   refine ⟨K0, 1, fun k hk => ?_⟩
   have e1 : spec_l4Rises.f k l = some (allFrom (risesAt l) l.length 1) := e0 k hk
   simp only [spec_SetOk.l0, e1, Option.bind_some]
   rw [if_neg (by omega)]
   have e2 : decide ((l.length : Int) ≤ 60) = decide (l.length ≤ 60) := by rw [Bool.eq_iff_iff]; simp; omega
   cases allFrom (risesAt l) l.length 1 <;> simp [e2]) 0 (Nat.zero_le _)
 obtain ⟨K, hk⟩ := this
 refine ⟨K, fun k hk' => ?_⟩
 have e := hk k hk'
 simp only [Int.natCast_zero] at e
 show spec_SetOk.l0 k l 0 = _
 have e' : spec_SetOk.l0 k l 0 = some (allFrom (fun j => keyOkB (l.getD j z27)) l.length 0 && (allFrom (risesAt l) l.length 1 && decide (l.length ≤ 60))) := e
 rw [e', setOkB, ← Bool.and_assoc]
 congr 2
 rw [Bool.eq_iff_iff, Bool.and_eq_true, allFrom_iff, allFrom_iff, allFrom_iff]
 constructor
 ·rintro ⟨h1, h2⟩ j hj hlt
  rw [h1 j hj hlt, Bool.true_and]
  by_cases hz : j = 0
  ·simp [hz]
  ·rw [h2 j (by omega) hlt, Bool.or_true]
 ·intro h
  refine ⟨fun j hj hlt => ?_, fun j hj hlt => ?_⟩
  ·have := h j hj hlt; simp only [Bool.and_eq_true] at this; exact this.1
  ·have := h j (by omega) hlt; simp only [Bool.and_eq_true, Bool.or_eq_true, beq_iff_eq] at this; rcases this.2 with h | h; omega; exact h
def countK : List (List S27) → Nat
 | [] => 0
 | l :: ls => l.length + countK ls
def nodeOkB (ls : List (List S27)) : Bool := allFrom (fun i => setOkB (ls.getD i []) && !decide ((ls.getD i []).length = 0)) ls.length 0 && (decide (ls.length ≤ 3) && decide (countK ls ≤ 8))
theorem countK_bulk : ∀ ls : List (List S27), countK ls ≤ bulkKeySS ls
 | [] => Nat.le_refl _
 | l :: ls => by have := countK_bulk ls; simp only [countK, bulkKeySS]; omega
theorem countK_drop (ls : List (List S27)) (i : Nat) (h : i < ls.length) : countK (ls.drop i) = (ls.getD i []).length + countK (ls.drop (i + 1)) := by
 rw [drop_getD ls i [] h]; rfl
theorem spec_l5Count_ev (ls : List (List S27)) (ho : okKeySS ls) : Ev (fun k => spec_l5Count.f k ls) ((countK ls : Nat) : Int) := by
 have h := okKeySS_len ho
 have hb := countK_bulk ls
 unfold okKeySS at ho
 obtain ⟨K, hk⟩ := evRange0 (σ := Int) ls.length (fun k s i => spec_l5Count.l0 k s i ls) (fun i s => s + (countK (ls.drop i) : Nat) = (countK ls : Nat) ∧ 0 ≤ s) (fun _ _ => ((countK ls : Nat) : Int)) 0 (by simp)
  (by
   rintro i s hi ⟨hs, h0⟩
   have hr : rd_L4 ls (i : Int) = ls.getD i [] := by simp [rd_L4]
   rw [countK_drop ls i hi] at hs
   refine .inl ⟨s + ((ls.getD i []).length : Int), ⟨by omega, by omega⟩, rfl, 0, 1, fun k _ => ?_⟩
   simp only [spec_l5Count.l0, hr]
   rw [if_pos (by omega), if_pos (by omega), w64 (by omega) (by omega), w64s i (by omega)])
  (by
   rintro s ⟨hs, h0⟩
   refine ⟨0, 1, fun k _ => ?_⟩
   simp only [spec_l5Count.l0]
   rw [if_neg (by omega)]
   simp only [List.drop_length, countK] at hs
   congr 1; omega)
 exact ⟨K, fun k hk' => hk k hk'⟩
theorem spec_NodeOk_ev (ls : List (List S27)) (ho : okKeySS ls) : Ev (fun k => spec_NodeOk.f k ls) (nodeOkB ls) := by
 have h := okKeySS_len ho
 obtain ⟨K0, e0⟩ := spec_l5Count_ev ls ho
 have := evAll ls.length (fun k i => spec_NodeOk.l0 k i ls) (fun i => setOkB (ls.getD i []) && !decide ((ls.getD i []).length = 0)) (decide (ls.length ≤ 3) && decide (countK ls ≤ 8))
  (by
   intro i hi
   have hr : rd_L4 ls (i : Int) = ls.getD i [] := by simp [rd_L4]
   obtain ⟨K, e⟩ := spec_SetOk_ev (ls.getD i []) (okKeySS_at ho i hi)
   refine ⟨K, 1, fun k hk => ?_⟩
   have e1 := e k hk
   simp only at e1
   simp only [spec_NodeOk.l0, hr, e1, Option.bind_some]
   rw [if_pos (by omega), if_pos (by omega), w64s i (by omega)]
   generalize ls.getD i [] = y at *
   cases hq : setOkB y with
   | false => simp only [Bool.false_and, Bool.false_eq_true, if_false]
   | true =>
    simp only [Bool.true_and, if_true]
    by_cases c : y.length = 0
    ·rw [if_pos (by omega)]; simp [c]
    ·rw [if_neg (by omega)]; simp [c])
  (by
   refine ⟨K0, 1, fun k hk => ?_⟩
   have e1 := e0 k hk
   simp only at e1
   simp only [spec_NodeOk.l0, e1, Option.bind_some]
   rw [if_neg (by omega)]
   by_cases c : ls.length ≤ 3
   ·rw [if_pos (by omega)]
    congr 1
    rw [Bool.eq_iff_iff]; simp [c]; omega
   ·rw [if_neg (by omega)]; simp [c]) 0 (Nat.zero_le _)
 obtain ⟨K, hk⟩ := this
 exact ⟨K, fun k hk' => hk k hk'⟩
theorem spec_SameSpot_f (a b : S27) : spec_SameSpot.f a.f0 a.f1 a.f2 a.f3 a.f4 b.f0 b.f1 b.f2 b.f3 b.f4 = some (same a b) := by
 unfold spec_SameSpot.f same
 split
 ·simp only [*, true_and, Option.some.injEq]; rw [Bool.eq_iff_iff]; simp
 ·simp [*]
theorem spec_SetPut_ev (l : List S27) (x : S27) (h : l.length ≤ 4194304) : Ev (fun k => spec_SetPut.f k l x.f0 x.f1 x.f2 x.f3 x.f4) (setPut l x) := by
 obtain ⟨K, hk⟩ := evRange0 (σ := List S27 × Bool) l.length (fun k s i => spec_SetPut.l0 k l s.1 s.2 i x.f0 x.f1 x.f2 x.f3 x.f4) (fun i s => s.1.length ≤ 2 * i) (fun i s => s.1 ++ putGo x (l.drop i) s.2) ([], false) (by simp)
  (by
   intro i s hi hs
   obtain ⟨out, put⟩ := s
   simp only at hs
   have hd := drop_getD l i z27 hi
   have hr : rd_T27 l (i : Int) = l.getD i z27 := by simp [rd_T27]
   refine .inl ⟨(out ++ (if put || less (l.getD i z27) x then [] else [x]) ++ (if same (l.getD i z27) x then [] else [l.getD i z27]), put || !less (l.getD i z27) x), ?_, ?_, 0, 2, fun k _ => ?_⟩
   ·simp only [List.length_append]; split <;> split <;> simp <;> omega
   ·simp only [hd, putGo, List.append_assoc]
   ·generalize hy : l.getD i z27 = y at *
    have hw := w64s i (by omega)
    have c1 : (i : Int) < (l.length : Int) := by omega
    have c2 : 0 ≤ (i : Int) := by omega
    simp only [spec_SetPut.l0, hr, spec_LessKey_f, Option.bind_some, spec_SetPut.j1, if_pos c1, if_pos c2]
    cases put <;> cases hl : less y x <;> cases hq : same y x <;>
     simp only [Bool.not_true, Bool.not_false, if_true, if_false, Bool.false_eq_true, reduceCtorEq, spec_SameSpot_f, Option.bind_some, hq, hw, Bool.or_true, Bool.true_or, Bool.or_false, Bool.false_or, List.append_nil, List.append_assoc] <;>
     (repeat rw [if_pos (by first | omega | (simp only [List.length_append, List.length_cons, List.length_nil]; omega))]) <;> rfl)
  (by
   intro s hs
   obtain ⟨out, put⟩ := s
   simp only at hs
   refine ⟨0, 1, fun k _ => ?_⟩
   simp only [spec_SetPut.l0]
   rw [if_neg (by omega)]
   cases put
   ·rw [if_neg (by simp), if_pos (by omega)]; simp [putGo]
   ·rw [if_pos rfl]; simp [putGo])
 exact ⟨K, fun k hk' => hk k hk'⟩
theorem spec_MergeSets_ev (a b : List S27) (h : a.length + b.length ≤ 4194304) : Ev (fun k => spec_MergeSets.f k a b) (mergeSets a b) := by
 obtain ⟨K, hk⟩ := evRange0 (σ := List S27) b.length (fun k s i => spec_MergeSets.l0 k b s i) (fun i s => s.length ≤ a.length + i) (fun i s => mergeSets s (b.drop i)) a (by simp)
  (by
   intro i s hi hs
   have hd := drop_getD b i z27 hi
   have hr : rd_T27 b (i : Int) = b.getD i z27 := by simp [rd_T27]
   obtain ⟨K, e⟩ := spec_SetPut_ev s (b.getD i z27) (by omega)
   have hlen := setPut_length s (b.getD i z27)
   refine .inl ⟨setPut s (b.getD i z27), by omega, by simp only [hd, mergeSets, List.foldl_cons], K, 1, fun k hk => ?_⟩
   simp only [spec_MergeSets.l0, hr, e k hk, Option.bind_some]
   rw [if_pos (by omega), if_pos (by omega), w64s i (by omega)])
  (by
   intro s hs
   refine ⟨0, 1, fun k _ => ?_⟩
   simp only [spec_MergeSets.l0]
   rw [if_neg (by omega)]
   simp [mergeSets])
 refine ⟨K, fun k hk' => ?_⟩
 simp only [spec_MergeSets.f, Option.bind_some, List.length_nil, List.nil_append]
 rw [if_pos (by omega)]
 exact hk k hk'
theorem spec_Drop_ev (l : List S27) (h : l.length ≤ 4194304) : Ev (fun k => spec_Drop.f k l) (dropNone l) := by
 obtain ⟨K, hk⟩ := evRange0 (σ := List S27) l.length (fun k s i => spec_Drop.l0 k l s i) (fun i s => s.length ≤ i) (fun i s => s ++ dropNone (l.drop i)) [] (by simp)
  (by
   intro i s hi hs
   have hd := drop_getD l i z27 hi
   have hr : rd_T27 l (i : Int) = l.getD i z27 := by simp [rd_T27]
   generalize l.getD i z27 = y at *
   by_cases h1 : y.f2 = 0
   ·refine .inl ⟨s, by omega, ?_, 0, 1, fun k _ => ?_⟩
    ·rw [hd, dropNone, dropNone, List.filter_cons_of_neg (by simp [h1])]
    ·simp only [spec_Drop.l0, hr]
     rw [if_pos (by omega), if_pos (by omega), if_pos h1, w64s i (by omega)]
   ·refine .inl ⟨s ++ [y], by simp; omega, ?_, 0, 1, fun k _ => ?_⟩
    ·rw [hd, dropNone, dropNone, List.filter_cons_of_pos (by simp [h1]), List.append_assoc]; rfl
    ·simp only [spec_Drop.l0, hr]
     rw [if_pos (by omega), if_pos (by omega), if_neg h1, if_pos (by omega), w64s i (by omega)])
  (by
   intro s _
   refine ⟨0, 1, fun k _ => ?_⟩
   simp only [spec_Drop.l0]
   rw [if_neg (by omega)]
   simp [dropNone])
 exact ⟨K, fun k hk' => hk k hk'⟩
def spotOf (a b : Int) : Int := wrap64 (wrap64 (64 * a) + b)
/-- The last low at most x, or -1: counted down from n. -/
def whereGo (l : List Int) (x : Int) : Nat → Int
 | 0 => -1
 | n + 1 => if l.getD n 0 ≤ x then (n : Int) else whereGo l x n
def mergeAll (s : List S27) (ls : List (List S27)) : List S27 := ls.foldl mergeSets s
def nodeKeys (ls : List (List S27)) : List S27 := dropNone (mergeAll [] ls)
theorem mergeAll_length : ∀ (ls : List (List S27)) (s : List S27), (mergeAll s ls).length ≤ s.length + countK ls
 | [], s => by simp [mergeAll]
 | l :: ls, s => by
  have h1 := mergeAll_length ls (mergeSets s l)
  have h2 := mergeSets_length s l
  simp only [mergeAll, List.foldl_cons, countK] at *
  omega
theorem dropNone_length (l : List S27) : (dropNone l).length ≤ l.length := List.length_filter_le _ _
theorem nodeKeys_length (ls : List (List S27)) : (nodeKeys ls).length ≤ countK ls := by
 have h1 := mergeAll_length ls []
 have h2 := dropNone_length (mergeAll [] ls)
 simp only [List.length_nil] at h1
 unfold nodeKeys
 omega
def inBoundsB (lows : List Int) (i : Nat) (ls : List (List S27)) : Bool := ls.all fun l => l.all fun x => decide (lows.getD i 0 ≤ spotOf x.f0 x.f1) && !(decide (i + 1 < lows.length) && decide (lows.getD (i + 1) 0 ≤ spotOf x.f0 x.f1))
theorem spec_NodeKeys_ev (ls : List (List S27)) (ho : okKeySS ls) : Ev (fun k => spec_NodeKeys.f k ls) (nodeKeys ls) := by
 have h := okKeySS_len ho
 have hb := countK_bulk ls
 have hbb : bulkKeySS ls ≤ 4194304 := ho
 obtain ⟨K, hk⟩ := evRange0 (σ := List S27) ls.length (fun k s i => spec_NodeKeys.l0 k s i ls) (fun i s => s.length + countK (ls.drop i) ≤ countK ls) (fun i s => dropNone (mergeAll s (ls.drop i))) [] (by simp)
  (by
   intro i s hi hs
   have hd := drop_getD ls i [] hi
   have hr : rd_L4 ls (i : Int) = ls.getD i [] := by simp [rd_L4]
   rw [countK_drop ls i hi] at hs
   obtain ⟨K, e⟩ := spec_MergeSets_ev s (ls.getD i []) (by omega)
   have hl := mergeSets_length s (ls.getD i [])
   refine .inl ⟨mergeSets s (ls.getD i []), by omega, by rw [hd]; rfl, K, 1, fun k hk => ?_⟩
   have e1 := e k hk
   simp only at e1
   simp only [spec_NodeKeys.l0, hr, e1, Option.bind_some]
   rw [if_pos (by omega), if_pos (by omega), w64s i (by omega)])
  (by
   intro s hs
   simp only [List.drop_length, countK] at hs
   obtain ⟨K, e⟩ := spec_Drop_ev s (by omega)
   refine ⟨K, 1, fun k hk => ?_⟩
   have e1 := e k hk
   simp only at e1
   simp only [spec_NodeKeys.l0, e1, Option.bind_some]
   rw [if_neg (by omega)]
   simp [mergeAll])
 exact ⟨K, fun k hk' => hk k hk'⟩
def at6 : Option S27 → Int × Int × Int × Int × Int × Bool
 | some x => (x.f0, x.f1, x.f2, x.f3, x.f4, true)
 | none => (0, 0, 0, 0, 0, false)
def setAt (l : List S27) (a b : Int) : Option S27 := l.find? fun x => decide (x.f0 = a) && decide (x.f1 = b)
theorem spec_SetAt_ev (l : List S27) (a b : Int) (h : l.length ≤ 4194304) : Ev (fun k => spec_SetAt.f k l a b) (at6 (setAt l a b)) := by
 obtain ⟨K, hk⟩ := evRange0 (σ := Unit) l.length (fun k _ i => spec_SetAt.l0 k l a b i) (fun _ _ => True) (fun i _ => at6 (setAt (l.drop i) a b)) () trivial
  (by
   intro i _ hi _
   have hd := drop_getD l i z27 hi
   have hr : rd_T27 l (i : Int) = l.getD i z27 := by simp [rd_T27]
   generalize l.getD i z27 = y at *
   by_cases h1 : y.f0 = a ∧ y.f1 = b
   ·refine .inr ⟨0, 1, fun k _ => ?_⟩
    simp only [spec_SetAt.l0, hr]
    rw [if_pos (by omega), if_pos (by omega), if_pos h1.1, if_pos h1.2, hd, setAt, List.find?_cons_of_pos (by simp [h1])]
    rfl
   ·refine .inl ⟨(), trivial, ?_, 0, 1, fun k _ => ?_⟩
    ·rw [hd, setAt, setAt, List.find?_cons_of_neg (by simpa using h1)]
    ·simp only [spec_SetAt.l0, hr]
     rw [if_pos (by omega), if_pos (by omega), w64s i (by omega)]
     by_cases h2 : y.f0 = a
     ·rw [if_pos h2, if_neg (fun h3 => h1 ⟨h2, h3⟩)]
     ·rw [if_neg h2])
  (by
   intro _ _
   refine ⟨0, 1, fun k _ => ?_⟩
   simp only [spec_SetAt.l0]
   rw [if_neg (by omega)]
   simp [setAt, at6])
 exact ⟨K, fun k hk' => hk k hk'⟩
theorem spec_l5Copy_ev (ls : List (List S27)) (ho : okKeySS ls) : Ev (fun k => spec_l5Copy.f k ls) ls := by
 have h := okKeySS_len ho
 obtain ⟨K, hk⟩ := evRange0 (σ := List (List S27)) ls.length (fun k s i => spec_l5Copy.l0 k i ls s) (fun i s => s = ls.take i) (fun _ _ => ls) [] (by simp)
  (by
   intro i s hi hs
   subst hs
   have hr : rd_L4 ls (i : Int) = ls.getD i [] := by simp [rd_L4]
   have hb := okKeySS_at ho i hi
   unfold okKeyS at hb
   have hl : (ls.take i).length = i := by simp; omega
   refine .inl ⟨ls.take (i + 1), rfl, rfl, 0, 1, fun k _ => ?_⟩
   simp only [spec_l5Copy.l0, hr, Option.bind_some, List.length_nil, List.nil_append]
   rw [if_pos (by omega), if_pos (by omega), if_pos (by omega), if_pos (by omega), w64s i (by omega), take_getD ls i [] hi])
  (by
   intro s hs
   subst hs
   refine ⟨0, 1, fun k _ => ?_⟩
   simp only [spec_l5Copy.l0]
   rw [if_neg (by omega), List.take_length])
 exact ⟨K, fun k hk' => hk k hk'⟩
def lastK (ls : List (List S27)) : List S27 := ls.getD (ls.length - 1) []
def hereK (ls : List (List S27)) (x : S27) : Bool := (setAt (lastK ls) x.f0 x.f1).isSome || decide ((lastK ls).length < 4)
def nodeNext (ls : List (List S27)) (x : S27) : List (List S27) := if ls.length ≠ 0 ∧ hereK ls x = true then ls.set (ls.length - 1) (setPut (lastK ls) x) else ls ++ [[x]]
def keysPut (ls : List (List S27)) (x : S27) : List S27 := dropNone (setPut (nodeKeys ls) x)
def nodePut (ls : List (List S27)) (x : S27) : List (List S27) × Bool :=
 if nodeOkB (nodeNext ls x) = true then (nodeNext ls x, true)
 else if (keysPut ls x).length ≤ 8 ∧ nodeOkB (nodeNew (keysPut ls x)) = true then (nodeNew (keysPut ls x), true)
 else (ls, false)
theorem bulkKeySS_app : ∀ (a b : List (List S27)), bulkKeySS (a ++ b) = bulkKeySS a + bulkKeySS b
 | [], b => by simp [bulkKeySS]
 | x :: a, b => by have := bulkKeySS_app a b; simp only [List.cons_append, bulkKeySS, this]; omega
theorem bulkKeySS_set : ∀ (a : List (List S27)) (i : Nat) (x : List S27), i < a.length → bulkKeySS (a.set i x) + (a.getD i []).length = bulkKeySS a + x.length
 | y :: a, 0, x, _ => by simp only [lB, bulkKeySS, List.getD_cons_zero]; omega
 | y :: a, i + 1, x, h => by
  have := bulkKeySS_set a i x (by simpa using h)
  simp only [lC, bulkKeySS, List.getD_cons_succ]; omega
theorem bulk_nodeNext (ls : List (List S27)) (x : S27) : bulkKeySS (nodeNext ls x) ≤ bulkKeySS ls + 2 := by
 unfold nodeNext
 split
 ·rename_i h
  have h1 := bulkKeySS_set ls (ls.length - 1) (setPut (lastK ls) x) (by omega)
  have h2 := setPut_length (lastK ls) x
  unfold lastK at *
  omega
 ·rw [bulkKeySS_app]
  simp [bulkKeySS]
theorem keysPut_length (ls : List (List S27)) (x : S27) : (keysPut ls x).length ≤ bulkKeySS ls + 1 := by
 have h1 := dropNone_length (setPut (nodeKeys ls) x)
 have h2 := setPut_length (nodeKeys ls) x
 have h3 := nodeKeys_length ls
 have h4 := countK_bulk ls
 unfold keysPut
 omega
theorem bulk_nodeNew (l : List S27) : bulkKeySS (nodeNew l) ≤ l.length + 1 := by
 unfold nodeNew
 split
 ·simp [bulkKeySS]
 ·simp only [bulkKeySS]; omega
theorem okKeySS_nodePut (ls : List (List S27)) (x : S27) (h : bulkKeySS ls ≤ 4194300) : okKeySS (nodePut ls x).1 := by
 have h1 := bulk_nodeNext ls x
 have h2 := keysPut_length ls x
 have h3 := bulk_nodeNew (keysPut ls x)
 unfold nodePut okKeySS
 split
 ·show bulkKeySS (nodeNext ls x) ≤ _; omega
 ·split
  ·show bulkKeySS (nodeNew (keysPut ls x)) ≤ _; omega
  ·show bulkKeySS ls ≤ _; omega
theorem spec_NodePut_j3 (ls : List (List S27)) (l : List S27) (b : Bool) (ho : okKeySS ls) (hl : l.length ≤ 4194304) : Ev (fun k => spec_NodePut.j3 k l b ls) (if b = true then (ls, false) else (nodeNew l, true)) := by
 obtain ⟨K, e⟩ := spec_l5Copy_ev ls ho
 obtain ⟨K2, e2⟩ := spec_NodeNew_ev l hl
 refine evSucc ⟨K + K2, 1, fun k hk => ?_⟩
 have e1 := e k (by omega)
 have e3 := e2 k (by omega)
 simp only at e1 e3
 cases b <;> simp [spec_NodePut.j3, e1, e3]
theorem spec_NodePut_j2 (ls cur : List (List S27)) (x : S27) (h : bulkKeySS ls ≤ 4194300) (hc : okKeySS cur) : Ev (fun k => spec_NodePut.j2 k ls x.f0 x.f1 x.f2 x.f3 x.f4 cur) (if nodeOkB cur = true then (cur, true) else if (keysPut ls x).length ≤ 8 ∧ nodeOkB (nodeNew (keysPut ls x)) = true then (nodeNew (keysPut ls x), true) else (ls, false)) := by
 have h1 := nodeKeys_length ls
 have h2 := countK_bulk ls
 have h3 := setPut_length (nodeKeys ls) x
 have h4 := keysPut_length ls x
 have h5 := bulk_nodeNew (keysPut ls x)
 have ho : okKeySS ls := by unfold okKeySS; omega
 obtain ⟨K1, e1⟩ := spec_NodeOk_ev cur hc
 obtain ⟨K2, e2⟩ := spec_NodeKeys_ev ls ho
 obtain ⟨K3, e3⟩ := spec_SetPut_ev (nodeKeys ls) x (by omega)
 obtain ⟨K4, e4⟩ := spec_Drop_ev (setPut (nodeKeys ls) x) (by omega)
 obtain ⟨K5, e5⟩ := spec_NodeNew_ev (keysPut ls x) (by omega)
 obtain ⟨K6, e6⟩ := spec_NodeOk_ev (nodeNew (keysPut ls x)) (by unfold okKeySS; omega)
 obtain ⟨K7, e7⟩ := spec_NodePut_j3 ls (keysPut ls x) true ho (by omega)
 obtain ⟨K8, e8⟩ := spec_NodePut_j3 ls (keysPut ls x) (!nodeOkB (nodeNew (keysPut ls x))) ho (by omega)
 refine evSucc ⟨K1 + K2 + K3 + K4 + K5 + K6 + K7 + K8, 1, fun k hk => ?_⟩
 have a1 := e1 k (by omega)
 have a2 := e2 k (by omega)
 have a3 := e3 k (by omega)
 have a4 := e4 k (by omega)
 have a5 := e5 k (by omega)
 have a6 := e6 k (by omega)
 have a7 := e7 k (by omega)
 have a8 := e8 k (by omega)
 have hkp : dropNone (setPut (nodeKeys ls) x) = keysPut ls x := rfl
 simp only at a1 a2 a3 a4 a5 a6 a7 a8
 simp only [spec_NodePut.j2, a1, a2, a3, a4, hkp, Option.bind_some]
 by_cases c1 : nodeOkB cur = true
 ·rw [if_pos c1, if_pos c1]
 ·rw [if_neg c1, if_neg c1]
  by_cases c2 : ((keysPut ls x).length : Int) > 8
  ·rw [if_pos c2, if_neg (by omega), a7]
   rfl
  ·rw [if_neg c2]
   simp only [a5, Option.bind_some, a6, a8]
   have c3 : (keysPut ls x).length ≤ 8 := by omega
   cases nodeOkB (nodeNew (keysPut ls x)) <;> simp [c3]
theorem spec_NodePut_ev (ls : List (List S27)) (x : S27) (h : bulkKeySS ls ≤ 4194300) : Ev (fun k => spec_NodePut.f k ls x.f0 x.f1 x.f2 x.f3 x.f4) (nodePut ls x) := by
 have ho : okKeySS ls := by unfold okKeySS; omega
 have hlen := okKeySS_len ho
 have hn := bulk_nodeNext ls x
 have hj2 := spec_NodePut_j2 ls (nodeNext ls x) x h (by unfold okKeySS; omega)
 unfold spec_NodePut.f
 refine Ev.bind (spec_l5Copy_ev ls ho) ?_
 rw [w64 (x := (ls.length : Int) - 1) (by omega) (by omega)]
 by_cases c : ls.length = 0
 ·simp only [if_neg (show ¬ ((ls.length : Int) - 1 ≥ 0) by omega)]
  have hnx : nodeNext ls x = ls ++ [[x]] := by unfold nodeNext; rw [if_neg (by omega)]
  rw [hnx] at hj2
  obtain ⟨K, e⟩ := hj2
  refine evSucc ⟨K, 3, fun k hk => ?_⟩
  have a := e k hk
  simp only at a
  simp only [spec_NodePut.j0, spec_NodePut.j1]
  rw [if_neg (by omega), if_neg (by simp), if_pos (by omega)]
  show spec_NodePut.j2 (k + 1) _ _ _ _ _ _ _ = _
  have a' := e (k + 1) (by omega)
  simp only at a'
  rw [a']
  unfold nodePut
  rw [hnx]
 ·simp only [if_pos (show (ls.length : Int) - 1 ≥ 0 by omega), if_pos (show 0 ≤ (ls.length : Int) - 1 by omega), if_pos (show (ls.length : Int) - 1 < (ls.length : Int) by omega)]
  have hi : ((ls.length : Int) - 1).toNat = ls.length - 1 := by omega
  have hr : rd_L4 ls ((ls.length : Int) - 1) = lastK ls := by unfold rd_L4 lastK; rw [hi]
  have hlk := okKeySS_at ho (ls.length - 1) (by omega)
  have hlk' : (lastK ls).length ≤ 4194304 := hlk
  rw [hr]
  refine Ev.bind (spec_SetAt_ev (lastK ls) x.f0 x.f1 hlk') ?_
  obtain ⟨K, e⟩ := hj2
  obtain ⟨K2, e2⟩ := spec_SetPut_ev (lastK ls) x hlk'
  have hb : (at6 (setAt (lastK ls) x.f0 x.f1)).2.2.2.2.2 = (setAt (lastK ls) x.f0 x.f1).isSome := by cases setAt (lastK ls) x.f0 x.f1 <;> rfl
  rw [hb]
  refine evSucc ⟨K + K2, 3, fun k hk => ?_⟩
  have a' := e (k + 1) (by omega)
  have a2 := e2 (k + 1) (by omega)
  simp only at a' a2
  have j1 : ∀ b : Bool, spec_NodePut.j1 (k + 2) ((ls.length : Int) - 1) b ls x.f0 x.f1 x.f2 x.f3 x.f4 ls = spec_NodePut.j2 (k + 1) ls x.f0 x.f1 x.f2 x.f3 x.f4 (if b = true then ls.set (ls.length - 1) (setPut (lastK ls) x) else ls ++ [[x]]) := by
   intro b
   cases b
   ·simp only [spec_NodePut.j1]
    rw [if_neg (by simp), if_pos (by omega), if_neg (by simp)]
   ·simp only [spec_NodePut.j1]
    rw [if_pos trivial, if_pos (by omega), if_pos (by omega), hr, a2, hi]
    rfl
  show spec_NodePut.j0 (k + 3) _ _ _ _ _ _ _ _ _ = _
  simp only [spec_NodePut.j0]
  rw [if_pos (by omega), if_pos (by omega), if_pos (by omega), hr]
  have hfin : ∀ b : Bool, hereK ls x = b → spec_NodePut.j2 (k + 1) ls x.f0 x.f1 x.f2 x.f3 x.f4 (if b = true then ls.set (ls.length - 1) (setPut (lastK ls) x) else ls ++ [[x]]) = some (nodePut ls x) := by
   intro b hb
   have : (if b = true then ls.set (ls.length - 1) (setPut (lastK ls) x) else ls ++ [[x]]) = nodeNext ls x := by
    unfold nodeNext
    rw [hb]
    cases b
    ·simp
    ·simp [c]
   rw [this, a']
   rfl
  by_cases c4 : ((lastK ls).length : Int) < 4
  ·rw [if_pos c4, j1]
   exact hfin true (by unfold hereK; simp; right; omega)
  ·rw [if_neg c4, j1]
   exact hfin _ (by unfold hereK; have h4_ : ¬ (lastK ls).length < 4 := (by omega); simp [h4_])
theorem impl_copyKeys_f (a : List S27) (h : a.length ≤ 4194304) : impl_copyKeys.f a = some a := by
 simp only [impl_copyKeys.f, Option.bind_some, List.length_nil, List.nil_append]
 rw [if_pos (by omega)]
theorem impl_NodeNew_ev (l : List S27) (h : l.length ≤ 4194304) : Ev (fun _ => impl_NodeNew.f l) (nodeNew l) := by
 refine evOf fun _ => ?_
 simp only [impl_NodeNew.f, impl_copyKeys.f, nodeNew, Option.bind_some, List.nil_append, List.length_nil, Nat.zero_add]
 by_cases c : l.length = 0
 ·rw [if_pos (by omega), if_pos c]
 ·rw [if_neg (by omega), if_neg c, if_pos (by omega)]
  rfl
theorem impl_within_f (a b c : Int) : impl_within.f a b c = some (decide (b ≤ a ∧ a ≤ c)) := by
 unfold impl_within.f
 by_cases h : a ≥ b
 ·rw [if_pos h]; congr 1; rw [Bool.eq_iff_iff]; simp; omega
 ·rw [if_neg h]; congr 1; rw [Bool.eq_iff_iff]; simp; omega
theorem impl_KeyOk_ev (a b c d e : Int) : Ev (fun k => impl_KeyOk.f k a b c d e) (keyOk5 a b c d e) := by
 refine evSucc ⟨0, 1, fun k _ => ?_⟩
 simp only [impl_KeyOk.f, impl_within_f, Option.bind_some, impl_KeyOk.j0, keyOk5]
 cases h0 : decide (0 ≤ a ∧ a ≤ 15) <;> cases h1 : decide (1 ≤ b ∧ b ≤ 60) <;> cases h2 : decide (0 ≤ c ∧ c ≤ 2) <;> simp only [Bool.false_and, Bool.true_and, Bool.false_eq_true, if_true, if_false, Bool.not_true, Bool.not_false]
 by_cases h3 : c = 1
 ·rw [if_pos h3, if_pos h3]
  cases h4 : decide (0 ≤ d ∧ d ≤ 23) <;> simp only [Bool.false_and, Bool.true_and, Bool.false_eq_true, if_true, if_false]
 ·rw [if_neg h3, if_neg h3]
  by_cases h4 : d = 0
  ·rw [if_pos h4]; simp [h4]; rw [Bool.eq_iff_iff]; simp
  ·rw [if_neg h4]; simp [h4]
theorem impl_LessKey_f (a b : S27) : impl_LessKey.f a.f0 a.f1 a.f2 a.f3 a.f4 b.f0 b.f1 b.f2 b.f3 b.f4 = some (less a b) := by
 unfold impl_LessKey.f less
 split
 ·simp [*]
 ·split
  ·simp [*]
  ·simp [*]
theorem impl_SetOk_ev (l : List S27) (h : l.length ≤ 4194304) : Ev (fun k => impl_SetOk.f k l) (setOkB l) := by
 have := evAll l.length (fun k i => impl_SetOk.l0 k l l (l.length : Int) i) (fun j => keyOkB (l.getD j z27) && (j == 0 || risesAt l j)) (decide (l.length ≤ 60))
  (by
   intro i hi
   have hr : rd_T27 l (i : Int) = l.getD i z27 := by simp [rd_T27]
   obtain ⟨K, e⟩ := impl_KeyOk_ev (l.getD i z27).f0 (l.getD i z27).f1 (l.getD i z27).f2 (l.getD i z27).f3 (l.getD i z27).f4
   refine ⟨K, 1, fun k hk => ?_⟩
   have e1 : impl_KeyOk.f k (l.getD i z27).f0 (l.getD i z27).f1 (l.getD i z27).f2 (l.getD i z27).f3 (l.getD i z27).f4 = some (keyOkB (l.getD i z27)) := e k hk
   have hra : risesAt l i = less (l.getD (i - 1) z27) (l.getD i z27) := rfl
   simp only [impl_SetOk.l0, hr, e1, Option.bind_some]
   rw [if_pos (by omega), if_pos (by omega), if_pos (by omega)]
   have hw := w64s i (by omega)
   generalize l.getD i z27 = y at *
   cases hq : keyOkB y with
   | false => simp only [Bool.false_and, Bool.false_eq_true, if_false]
   | true =>
    simp only [Bool.true_and, if_true]
    by_cases hz : i = 0
    ·subst hz; rw [if_neg (by omega), hw]; rfl
    ·have hw1 : wrap64 ((i : Int) - 1) = ((i - 1 : Nat) : Int) := by rw [w64 (by omega) (by omega)]; omega
     have hr1 : rd_T27 l ((i - 1 : Nat) : Int) = l.getD (i - 1) z27 := by simp [rd_T27]
     rw [if_pos (by omega), hw1, if_pos (by omega), if_pos (by omega), hr1, impl_LessKey_f, hw, hra]
     simp only [Option.bind_some, beq_iff_eq, hz, Bool.false_or, beq_eq_false_iff_ne.mpr hz])
  (by
   refine ⟨0, 1, fun k _ => ?_⟩
   simp only [impl_SetOk.l0]
   rw [if_neg (by omega)]
   congr 1; rw [Bool.eq_iff_iff]; simp; omega) 0 (Nat.zero_le _)
 obtain ⟨K, hk⟩ := this
 exact ⟨K, fun k hk' => hk k hk'⟩
theorem impl_NodeOk_ev (ls : List (List S27)) (ho : okKeySS ls) : Ev (fun k => impl_NodeOk.f k ls) (nodeOkB ls) := by
 have h := okKeySS_len ho
 have hb := countK_bulk ls
 have hbb : bulkKeySS ls ≤ 4194304 := ho
 obtain ⟨K, hk⟩ := evRange0 (σ := Int) ls.length (fun k s i => impl_NodeOk.l0 k s ls (ls.length : Int) i ls) (fun i s => s + (countK (ls.drop i) : Nat) = (countK ls : Nat) ∧ 0 ≤ s)
  (fun i _ => allFrom (fun i => setOkB (ls.getD i []) && !decide ((ls.getD i []).length = 0)) ls.length i && (decide (ls.length ≤ 3) && decide (countK ls ≤ 8))) 0 (by simp)
  (by
   rintro i s hi ⟨hs, h0⟩
   have hr : rd_L4 ls (i : Int) = ls.getD i [] := by simp [rd_L4]
   obtain ⟨K, e⟩ := impl_SetOk_ev (ls.getD i []) (okKeySS_at ho i hi)
   rw [countK_drop ls i hi] at hs
   cases hq : setOkB (ls.getD i []) && !decide ((ls.getD i []).length = 0) with
   | false =>
    refine .inr ⟨K, 1, fun k hk => ?_⟩
    have e1 := e k hk
    simp only at e1
    simp only [impl_NodeOk.l0, hr, e1, Option.bind_some]
    rw [if_pos (by omega), if_pos (by omega), if_pos (by omega), allFrom_lt hi, hq, Bool.false_and, Bool.false_and]
    generalize ls.getD i [] = y at *
    cases hq2 : setOkB y with
    | false => simp only [Bool.false_eq_true, if_false]
    | true =>
     rw [hq2] at hq
     simp only [Bool.true_and, Bool.not_eq_false', decide_eq_true_eq] at hq
     simp only [if_true]
     rw [if_pos (by omega)]
   | true =>
    refine .inl ⟨s + ((ls.getD i []).length : Int), ⟨by omega, by omega⟩, by rw [allFrom_lt hi, hq, Bool.true_and], K, 1, fun k hk => ?_⟩
    have e1 := e k hk
    simp only at e1
    simp only [impl_NodeOk.l0, hr, e1, Option.bind_some]
    rw [if_pos (by omega), if_pos (by omega), if_pos (by omega), w64s i (by omega)]
    generalize ls.getD i [] = y at *
    simp only [Bool.and_eq_true, Bool.not_eq_true', decide_eq_false_iff_not] at hq
    rw [if_pos hq.1, if_neg (by omega), w64 (by omega) (by omega)])
  (by
   rintro s ⟨hs, h0⟩
   refine ⟨0, 1, fun k _ => ?_⟩
   simp only [List.drop_length, countK] at hs
   simp only [impl_NodeOk.l0, allFrom_end, Bool.true_and]
   rw [if_neg (by omega)]
   by_cases c : ls.length ≤ 3
   ·rw [if_pos (by omega)]
    congr 1
    rw [Bool.eq_iff_iff]; simp [c]; omega
   ·rw [if_neg (by omega)]; simp [c])
 exact ⟨K, fun k hk' => hk k hk'⟩
theorem impl_SetAt_ev (l : List S27) (a b : Int) (h : l.length ≤ 4194304) : Ev (fun k => impl_SetAt.f k l a b) (at6 (setAt l a b)) := by
 obtain ⟨K, hk⟩ := evRange0 (σ := Unit) l.length (fun k _ i => impl_SetAt.l0 k a b l (l.length : Int) i) (fun _ _ => True) (fun i _ => at6 (setAt (l.drop i) a b)) () trivial
  (by
   intro i _ hi _
   have hd := drop_getD l i z27 hi
   have hr : rd_T27 l (i : Int) = l.getD i z27 := by simp [rd_T27]
   generalize l.getD i z27 = y at *
   by_cases h1 : y.f0 = a ∧ y.f1 = b
   ·refine .inr ⟨0, 1, fun k _ => ?_⟩
    simp only [impl_SetAt.l0, hr]
    rw [if_pos (by omega), if_pos (by omega), if_pos (by omega), if_pos h1.1, if_pos h1.2, hd, setAt, List.find?_cons_of_pos (by simp [h1])]
    rfl
   ·refine .inl ⟨(), trivial, ?_, 0, 1, fun k _ => ?_⟩
    ·rw [hd, setAt, setAt, List.find?_cons_of_neg (by simpa using h1)]
    ·simp only [impl_SetAt.l0, hr]
     rw [if_pos (by omega), if_pos (by omega), if_pos (by omega), w64s i (by omega)]
     by_cases h2 : y.f0 = a
     ·rw [if_pos h2, if_neg (fun h3 => h1 ⟨h2, h3⟩)]
     ·rw [if_neg h2])
  (by
   intro _ _
   refine ⟨0, 1, fun k _ => ?_⟩
   simp only [impl_SetAt.l0]
   rw [if_neg (by omega)]
   simp [setAt, at6])
 exact ⟨K, fun k hk' => hk k hk'⟩
theorem impl_copyNode_ev (ls : List (List S27)) (ho : okKeySS ls) : Ev (fun k => impl_copyNode.f k ls) ls := by
 have h := okKeySS_len ho
 obtain ⟨K, hk⟩ := evRange0 (σ := List (List S27)) ls.length (fun k s i => impl_copyNode.l0 k ls (ls.length : Int) i s) (fun i s => s = ls.take i) (fun _ _ => ls) [] (by simp)
  (by
   intro i s hi hs
   subst hs
   have hr : rd_L4 ls (i : Int) = ls.getD i [] := by simp [rd_L4]
   have hb := okKeySS_at ho i hi
   unfold okKeyS at hb
   have hc := impl_copyKeys_f (ls.getD i []) hb
   have hl : (ls.take i).length = i := by simp; omega
   refine .inl ⟨ls.take (i + 1), rfl, rfl, 0, 1, fun k _ => ?_⟩
   simp only [impl_copyNode.l0, hr, hc, Option.bind_some]
   rw [if_pos (by omega), if_pos (by omega), if_pos (by omega), if_pos (by omega), w64s i (by omega), take_getD ls i [] hi])
  (by
   intro s hs
   subst hs
   refine ⟨0, 1, fun k _ => ?_⟩
   simp only [impl_copyNode.l0]
   rw [if_neg (by omega), List.take_length])
 exact ⟨K, fun k hk' => hk k hk'⟩
theorem impl_SameSpot_f (a b : S27) : impl_SameSpot.f a.f0 a.f1 a.f2 a.f3 a.f4 b.f0 b.f1 b.f2 b.f3 b.f4 = some (same a b) := by
 unfold impl_SameSpot.f same
 split
 ·simp only [*, true_and, Option.some.injEq]; rw [Bool.eq_iff_iff]; simp
 ·simp [*]
theorem impl_SetPut_ev (l : List S27) (x : S27) (h : l.length ≤ 4194304) : Ev (fun k => impl_SetPut.f k l x.f0 x.f1 x.f2 x.f3 x.f4) (setPut l x) := by
 obtain ⟨K, hk⟩ := evRange0 (σ := List S27 × Bool) l.length (fun k s i => impl_SetPut.l0 k s.1 s.2 l (l.length : Int) i x.f0 x.f1 x.f2 x.f3 x.f4) (fun i s => s.1.length ≤ 2 * i) (fun i s => s.1 ++ putGo x (l.drop i) s.2) ([], false) (by simp)
  (by
   intro i s hi hs
   obtain ⟨out, put⟩ := s
   simp only at hs
   have hd := drop_getD l i z27 hi
   have hr : rd_T27 l (i : Int) = l.getD i z27 := by simp [rd_T27]
   refine .inl ⟨(out ++ (if put || less (l.getD i z27) x then [] else [x]) ++ (if same (l.getD i z27) x then [] else [l.getD i z27]), put || !less (l.getD i z27) x), ?_, ?_, 0, 2, fun k _ => ?_⟩
   ·simp only [List.length_append]; split <;> split <;> simp <;> omega
   ·simp only [hd, putGo, List.append_assoc]
   ·generalize hy : l.getD i z27 = y at *
    simp only [impl_SetPut.l0, hr]
    rw [if_pos (by omega), if_pos (by omega), if_pos (by omega)]
    rw [impl_LessKey_f]
    simp only [Option.bind_some, impl_SetPut.j1]
    have hw := w64s i (by omega)
    cases put <;> cases hl : less y x <;> cases hq : same y x <;>
     simp only [Bool.not_true, Bool.not_false, if_true, if_false, Bool.false_eq_true, reduceCtorEq, impl_SameSpot_f, Option.bind_some, hq, hw, Bool.or_true, Bool.true_or, Bool.or_false, Bool.false_or, List.append_nil, List.append_assoc] <;>
     (repeat rw [if_pos (by first | omega | (simp only [List.length_append, List.length_cons, List.length_nil]; omega))]) <;> rfl)
  (by
   intro s hs
   obtain ⟨out, put⟩ := s
   simp only at hs
   refine ⟨0, 1, fun k _ => ?_⟩
   simp only [impl_SetPut.l0]
   rw [if_neg (by omega)]
   cases put
   ·rw [if_neg (by simp), if_pos (by omega)]; simp [putGo]
   ·rw [if_pos rfl]; simp [putGo])
 exact ⟨K, fun k hk' => hk k hk'⟩
theorem impl_MergeSets_ev (a b : List S27) (h : a.length + b.length ≤ 4194304) : Ev (fun k => impl_MergeSets.f k a b) (mergeSets a b) := by
 obtain ⟨K, hk⟩ := evRange0 (σ := List S27) b.length (fun k s i => impl_MergeSets.l0 k s b (b.length : Int) i) (fun i s => s.length ≤ a.length + i) (fun i s => mergeSets s (b.drop i)) a (by simp)
  (by
   intro i s hi hs
   have hd := drop_getD b i z27 hi
   have hr : rd_T27 b (i : Int) = b.getD i z27 := by simp [rd_T27]
   obtain ⟨K, e⟩ := impl_SetPut_ev s (b.getD i z27) (by omega)
   have hlen := setPut_length s (b.getD i z27)
   refine .inl ⟨setPut s (b.getD i z27), by omega, by simp only [hd, mergeSets, List.foldl_cons], K, 1, fun k hk => ?_⟩
   simp only [impl_MergeSets.l0, hr, e k hk, Option.bind_some]
   rw [if_pos (by omega), if_pos (by omega), if_pos (by omega), w64s i (by omega)])
  (by
   intro s hs
   refine ⟨0, 1, fun k _ => ?_⟩
   simp only [impl_MergeSets.l0]
   rw [if_neg (by omega)]
   simp [mergeSets])
 refine ⟨K, fun k hk' => ?_⟩
 simp only [impl_MergeSets.f, impl_copyKeys_f a (by omega), Option.bind_some]
 exact hk k hk'
theorem impl_Drop_ev (l : List S27) (h : l.length ≤ 4194304) : Ev (fun k => impl_Drop.f k l) (dropNone l) := by
 obtain ⟨K, hk⟩ := evRange0 (σ := List S27) l.length (fun k s i => impl_Drop.l0 k s l (l.length : Int) i) (fun i s => s.length ≤ i) (fun i s => s ++ dropNone (l.drop i)) [] (by simp)
  (by
   intro i s hi hs
   have hd := drop_getD l i z27 hi
   have hr : rd_T27 l (i : Int) = l.getD i z27 := by simp [rd_T27]
   generalize l.getD i z27 = y at *
   by_cases h1 : y.f2 = 0
   ·refine .inl ⟨s, by omega, ?_, 0, 1, fun k _ => ?_⟩
    ·rw [hd, dropNone, dropNone, List.filter_cons_of_neg (by simp [h1])]
    ·simp only [impl_Drop.l0, hr]
     rw [if_pos (by omega), if_pos (by omega), if_pos (by omega), if_pos h1, w64s i (by omega)]
   ·refine .inl ⟨s ++ [y], by simp; omega, ?_, 0, 1, fun k _ => ?_⟩
    ·rw [hd, dropNone, dropNone, List.filter_cons_of_pos (by simp [h1]), List.append_assoc]; rfl
    ·simp only [impl_Drop.l0, hr]
     rw [if_pos (by omega), if_pos (by omega), if_pos (by omega), if_neg h1, if_pos (by omega), w64s i (by omega)])
  (by
   intro s _
   refine ⟨0, 1, fun k _ => ?_⟩
   simp only [impl_Drop.l0]
   rw [if_neg (by omega)]
   simp [dropNone])
 exact ⟨K, fun k hk' => hk k hk'⟩
theorem impl_NodeKeys_ev (ls : List (List S27)) (ho : okKeySS ls) : Ev (fun k => impl_NodeKeys.f k ls) (nodeKeys ls) := by
 have h := okKeySS_len ho
 have hb := countK_bulk ls
 have hbb : bulkKeySS ls ≤ 4194304 := ho
 obtain ⟨K, hk⟩ := evRange0 (σ := List S27) ls.length (fun k s i => impl_NodeKeys.l0 k s ls (ls.length : Int) i) (fun i s => s.length + countK (ls.drop i) ≤ countK ls) (fun i s => dropNone (mergeAll s (ls.drop i))) [] (by simp)
  (by
   intro i s hi hs
   have hd := drop_getD ls i [] hi
   have hr : rd_L4 ls (i : Int) = ls.getD i [] := by simp [rd_L4]
   rw [countK_drop ls i hi] at hs
   obtain ⟨K, e⟩ := impl_MergeSets_ev s (ls.getD i []) (by omega)
   have hl := mergeSets_length s (ls.getD i [])
   refine .inl ⟨mergeSets s (ls.getD i []), by omega, by rw [hd]; rfl, K, 1, fun k hk => ?_⟩
   have e1 := e k hk
   simp only at e1
   simp only [impl_NodeKeys.l0, hr, e1, Option.bind_some]
   rw [if_pos (by omega), if_pos (by omega), if_pos (by omega), w64s i (by omega)])
  (by
   intro s hs
   simp only [List.drop_length, countK] at hs
   obtain ⟨K, e⟩ := impl_Drop_ev s (by omega)
   refine ⟨K, 1, fun k hk => ?_⟩
   have e1 := e k hk
   simp only at e1
   simp only [impl_NodeKeys.l0, e1, Option.bind_some]
   rw [if_neg (by omega)]
   simp [mergeAll])
 exact ⟨K, fun k hk' => hk k hk'⟩
theorem impl_keysWith_ev (ls : List (List S27)) (x : S27) (h : bulkKeySS ls ≤ 4194300) : Ev (fun k => impl_keysWith.f k ls x.f0 x.f1 x.f2 x.f3 x.f4) (keysPut ls x) := by
 have h1 := nodeKeys_length ls
 have h2 := countK_bulk ls
 have h3 := setPut_length (nodeKeys ls) x
 unfold impl_keysWith.f keysPut
 refine Ev.bind (impl_NodeKeys_ev ls (by unfold okKeySS; omega)) ?_
 refine Ev.bind (impl_SetPut_ev (nodeKeys ls) x (by omega)) ?_
 refine Ev.bind (impl_Drop_ev _ (by omega)) ?_
 exact Ev.now _
theorem impl_NodePut_j1 (ls cur : List (List S27)) (x : S27) (h : bulkKeySS ls ≤ 4194300) (hc : okKeySS cur) : Ev (fun k => impl_NodePut.j1 k ls x.f0 x.f1 x.f2 x.f3 x.f4 cur) (if nodeOkB cur = true then (cur, true) else if (keysPut ls x).length ≤ 8 ∧ nodeOkB (nodeNew (keysPut ls x)) = true then (nodeNew (keysPut ls x), true) else (ls, false)) := by
 have h4 := keysPut_length ls x
 have h5 := bulk_nodeNew (keysPut ls x)
 have ho : okKeySS ls := by unfold okKeySS; omega
 obtain ⟨K1, e1⟩ := impl_NodeOk_ev cur hc
 obtain ⟨K2, e2⟩ := impl_keysWith_ev ls x h
 obtain ⟨K5, e5⟩ := impl_NodeNew_ev (keysPut ls x) (by omega)
 obtain ⟨K6, e6⟩ := impl_NodeOk_ev (nodeNew (keysPut ls x)) (by unfold okKeySS; omega)
 obtain ⟨K7, e7⟩ := impl_copyNode_ev ls ho
 refine evSucc ⟨K1 + K2 + K5 + K6 + K7, 1, fun k hk => ?_⟩
 have a1 := e1 k (by omega)
 have a2 := e2 k (by omega)
 have a5 := e5 k (by omega)
 have a6 := e6 k (by omega)
 have a7 := e7 k (by omega)
 simp only at a1 a2 a5 a6 a7
 simp only [impl_NodePut.j1, a1, a2, a5, Option.bind_some]
 by_cases c1 : nodeOkB cur = true
 ·rw [if_pos c1, if_pos c1]
 ·rw [if_neg c1, if_neg c1]
  by_cases c2 : ((keysPut ls x).length : Int) > 8
  ·rw [if_pos c2, if_neg (by omega), a7]
   rfl
  ·rw [if_neg c2]
   simp only [a6, a7, Option.bind_some]
   have c3 : (keysPut ls x).length ≤ 8 := by omega
   cases nodeOkB (nodeNew (keysPut ls x)) <;> simp [c3]
theorem impl_NodePut_ev (ls : List (List S27)) (x : S27) (h : bulkKeySS ls ≤ 4194300) : Ev (fun k => impl_NodePut.f k ls x.f0 x.f1 x.f2 x.f3 x.f4) (nodePut ls x) := by
 have ho : okKeySS ls := by unfold okKeySS; omega
 have hlen := okKeySS_len ho
 have hn := bulk_nodeNext ls x
 have hj2 := impl_NodePut_j1 ls (nodeNext ls x) x h (by unfold okKeySS; omega)
 unfold impl_NodePut.f
 refine Ev.bind (impl_copyNode_ev ls ho) ?_
 rw [w64 (x := (ls.length : Int) - 1) (by omega) (by omega)]
 obtain ⟨K, e⟩ := hj2
 by_cases c : ls.length = 0
 ·simp only [if_neg (show ¬ ((ls.length : Int) - 1 ≥ 0) by omega)]
  have hnx : nodeNext ls x = ls ++ [[x]] := by unfold nodeNext; rw [if_neg (by omega)]
  rw [hnx] at e
  refine evSucc ⟨K, 1, fun k hk => ?_⟩
  have a := e k hk
  simp only at a
  simp only [impl_NodePut.j0]
  rw [if_neg (by simp), if_pos (by omega)]
  rw [a]
  unfold nodePut
  rw [hnx]
 ·simp only [if_pos (show (ls.length : Int) - 1 ≥ 0 by omega), if_pos (show 0 ≤ (ls.length : Int) - 1 by omega), if_pos (show (ls.length : Int) - 1 < (ls.length : Int) by omega)]
  have hi : ((ls.length : Int) - 1).toNat = ls.length - 1 := by omega
  have hr : rd_L4 ls ((ls.length : Int) - 1) = lastK ls := by unfold rd_L4 lastK; rw [hi]
  have hlk := okKeySS_at ho (ls.length - 1) (by omega)
  have hlk' : (lastK ls).length ≤ 4194304 := hlk
  rw [hr]
  refine Ev.bind (impl_SetAt_ev (lastK ls) x.f0 x.f1 hlk') ?_
  obtain ⟨K2, e2⟩ := impl_SetPut_ev (lastK ls) x hlk'
  have hb : (at6 (setAt (lastK ls) x.f0 x.f1)).2.2.2.2.2 = (setAt (lastK ls) x.f0 x.f1).isSome := by cases setAt (lastK ls) x.f0 x.f1 <;> rfl
  rw [hb]
  have j0 : ∀ b : Bool, hereK ls x = b → Ev (fun k => impl_NodePut.j0 k ((ls.length : Int) - 1) b ls x.f0 x.f1 x.f2 x.f3 x.f4 ls) (nodePut ls x) := by
   intro b hb
   have hnx : (if b = true then ls.set (ls.length - 1) (setPut (lastK ls) x) else ls ++ [[x]]) = nodeNext ls x := by
    unfold nodeNext
    rw [hb]
    cases b
    ·simp
    ·simp [c]
   refine evSucc ⟨K + K2, 1, fun k hk => ?_⟩
   have a' := e k (by omega)
   have a2 := e2 k (by omega)
   simp only at a' a2
   rw [← hnx] at a'
   cases b
   ·simp only [impl_NodePut.j0]
    rw [if_neg (by simp), if_pos (by omega)]
    rw [if_neg (by simp)] at a'
    rw [a']
    unfold nodePut
    rw [← hnx, if_neg (show ¬ (false = true) by decide)]
   ·simp only [impl_NodePut.j0]
    rw [if_pos rfl] at a'
    rw [if_pos trivial, if_pos (by omega), if_pos (by omega), hr, a2, hi]
    simp only [Option.bind_some]
    rw [if_pos (by omega), a']
    unfold nodePut
    rw [← hnx, if_pos rfl]
  by_cases c4 : (setAt (lastK ls) x.f0 x.f1).isSome = true
  ·simp only [if_pos c4]
   exact j0 true (by unfold hereK; simp [c4])
  ·simp only [if_neg c4]
   refine j0 _ ?_
   unfold hereK
   have : (setAt (lastK ls) x.f0 x.f1).isSome = false := by simpa using c4
   rw [this, Bool.false_or]
   exact decide_eq_decide.2 (by omega)
end Go.Proofs.Ythpfihklkcnckaa.Pure

namespace Go.Proofs.Ythpfihklkcnckaa.Law
open Go.RowKit Go.Proofs.Ythpfihklkcnckaa.PFnExactNodePut Go.Proofs.Ythpfihklkcnckaa.Core Go.Proofs.YthpfihklkcnckaaW.PrintWords Go.Proofs.YthpfihklkcnckaaW.PrintLast Go.Proofs.YthpfihklkcnckaaW.PrintMore Go.Proofs.Ythpfihklkcnckaa.Pure
set_option linter.unusedSimpArgs false
set_option linter.unusedVariables false
def laws_markKeySS.f (l0 : List (List S27)) (a1 : Int) : Option (Int × List (List S27)) := if bulkKeySS l0 ≤ 4194304 ∧ 0 ≤ a1 ∧ a1 ≤ 1000000000000 then some (a1 + cntKeySS l0, mkKeySS l0 a1) else none
theorem markKeySS_f {l : List (List S27)} {a : Int} (ho : okKeySS l) (h0 : 0 ≤ a) (h1 : a ≤ 1000000000000) : laws_markKeySS.f l a = some (a + cntKeySS l, mkKeySS l a) := if_pos ⟨ho, h0, h1⟩
set_option maxHeartbeats 4000000 in
set_option maxRecDepth 100000 in
theorem laws_markKeySS.calls (P0_ : Nat → Prop) (u9000_ : Value) (l0 : List (List S27)) (a1 : Int) (r1 : Int) (r2 : List (List S27)) (w0 w : World) (hB : Below w0.heap.size w0 w) (ho0 : Kd.S (Kd.slice 27 k27) 40 w w0.heap.size P0_ u9000_ l0) (h : laws_markKeySS.f l0 a1 = some (r1, r2)) :
  Calls Try.prog 59 #[u9000_, .int .i64 a1] w fun e w' => e = .returned (.int .i64 r1) ∧ Kd.S (Kd.slice 27 k27) 40 w' w0.heap.size (fun k_ => (P0_ k_ ∨ w.heap.size ≤ k_)) u9000_ r2 ∧ Below w0.heap.size w0 w' ∧ Kept w w' (fun k_ => P0_ k_) := by
 unfold laws_markKeySS.f at h
 split at h
 case isFalse => cases h
 case isTrue hc =>
 obtain ⟨hok, h0, h1⟩ := hc
 replace hok : okKeySS l0 := hok
 obtain ⟨ll, rfl⟩ : ∃ y, y = l0 := ⟨_, rfl⟩
 obtain ⟨a, rfl⟩ : ∃ y, y = a1 := ⟨_, rfl⟩
 obtain ⟨P, rfl⟩ : ∃ y, y = P0_ := ⟨_, rfl⟩
 obtain ⟨u, rfl⟩ : ∃ y, y = u9000_ := ⟨_, rfl⟩
 have ho := ho0
 clear ho0
 injection h with h
 injection h with hr1 hr2
 subst hr1
 subst hr2
 have HL := aA.mk (okKeySS_len hok)
 have HOK := aA.mk hok
 have HC := aA.mk (cntKeySS_nn hok)
 have HO0 := aA.mk (show Kd.S (Kd.slice 27 k27) 40 w w0.heap.size (fun k_ => P k_ ∨ w.heap.size ≤ k_) u (midL mkKeyS cntKeyS ll a 0) from by rw [midL_zero]; exact Kd.bP ho (fun _ hk => .inl hk))
 obtain ⟨A, c, rfl⟩ := Kd.S_slice ho
 have HK := aA.mk (Kept.refl w P)
 have HB := aA.mk hB
 have H0 := aA.mk h0
 have H1 := aA.mk h1
 clear hB ho hok h0 h1
 go_enter Try.func59, Try.ntmps59
 go_wp2
 go_loopg [1, 5] ll.length (fun kq v1 v5 w' => ∃ (x1_1 x5_1 : Int), v1 = .int .i64 x1_1 ∧ v5 = .int .i64 x5_1 ∧ aA (0 ≤ x5_1 ∧ x5_1 ≤ ll.length ∧ kq = ll.length - x5_1.toNat) ∧ aA (x1_1 = a + cntKeySS (ll.take x5_1.toNat)) ∧ aA (Kd.S (Kd.slice 27 k27) 40 w' w0.heap.size (fun k_ => P k_ ∨ w.heap.size ≤ k_) (.slice A ll.length c) (midL mkKeyS cntKeyS ll a x5_1.toNat)) ∧ aA (Kept w w' P) ∧ aA (Below w0.heap.size w0 w'))
 case atStart => exact ⟨a, 0, rfl, rfl, ⟨by omega⟩, ⟨by simp [cntKeySS, cntL]⟩, HO0, HK, HB⟩
 case round =>
  clear HO0 HK HB
  obtain ⟨x1_1, x5_1, rfl, rfl, HI, HX, HO, HK, HB⟩ := hrel
  by_cases c3 : x5_1 < (ll.length : Int)
  ·have c3b0 : decide (x5_1 < (ll.length : Int)) = true := decide_eq_true c3
   have p1 : 0 ≤ x5_1 := HI.out.1
   obtain ⟨i, hi⟩ : ∃ i : Nat, i = x5_1.toNat := ⟨_, rfl⟩
   have hil : i < ll.length := by omega
   obtain ⟨go, co, eo, gb, gl, cl, HG⟩ := Kd.S_form HO.out (by rw [midL_length mkKeyS cntKeyS ll a _ (by omega)]; omega)
   rw [midL_length mkKeyS cntKeyS ll a _ (by omega)] at eo
   cases eo
   obtain ⟨oki, v, hoki, hR, hcell, hback⟩ := Mem.lent HO.out x5_1 p1 c3 (fun k hk => .inr (Nat.le_trans HK.out.1 hk))
   rw [← hi, midL_getD mkKeyS cntKeyS [] ll a i hil] at hR
   obtain ⟨Ai, ci, rfl⟩ := Kd.R_slice hR
   have ht := cntKeySS_take ll i
   have hx := HX.out
   rw [← hi] at hx
   have hc := HC.out
   have h0 := H0.out
   have h1 := H1.out
   obtain ⟨K, hK⟩ := markKeyS_ev (ll.getD i []) x1_1 (okKeySS_at HOK.out i hil) (by omega) (by omega)
   have hcall := laws_markKeyS.calls K oki _ (ll.getD i []) x1_1 (x1_1 + cntKeyS (ll.getD i [])) (mkKeyS (ll.getD i []) x1_1) w0 wr HB.out hR (hK K (Nat.le_refl _))
   have HCALL := aA.mk hcall
   have HN := aA.mk (show cntKeySS (ll.take (i + 1)) = cntKeySS (ll.take i) + cntKeyS (ll.getD i []) from cntL_take cntKeyS [] ll i hil)
   have HS := aA.mk (midL_set mkKeyS cntKeyS [] ll a i hil)
   have HBK := aA.mk hback
   have HOKI := aA.mk hoki
   have HI' := aA.mk hi
   have HX' := aA.mk hx
   have HIL := aA.mk hil
   have HE := aA.mk (show rdOf [] ll x5_1 = ll.getD i [] by unfold rdOf; rw [hi])
   clear hK hcall hback hoki hx hc h0 h1 ht hil hR
   clear HO
   replace p1 := eq_true p1
   replace c3 := eq_true c3
   generalize ll.getD i [] = y at *
   clear hi
   go_wp2_with (first | ((with_reducible refine bD (f := 25) rfl ?_); refine bL (some 17) rfl rfl Try.func25 (by kernel_rfl) rfl #[.slice Ai y.length ci, .int .i64 x1_1] rfl (by (try simp only [List.map_toArray, List.map_cons, List.map_nil]); first | done | rfl) ?_; refine HCALL.out.mono ?_; rintro e w1 ⟨rfl, hR1, hB1, hK1⟩; refine ⟨_, rfl, ?_⟩; have n0 := aA.mk (HBK.out w1 _ hK1 hR1); have n1 := aA.mk (Kept.then_ HK.out hK1 (fun k hk => HOKI.out k hk)); clear HK HB; have HO := n0; have HK := n1; have HB := aA.mk hB1; clear n0 n1 hK1 hR1 hB1))
   go_roundg (ll.length - (x5_1.toNat + 1))
   case measure => have := HI.out; have := HIL.out; have := HI'.out; omega
   case rel =>
    have hI := HI.out
    have hi := HI'.out
    have hil := HIL.out
    have hw : wrap64 (x5_1 + 1) = x5_1 + 1 := w64 (by omega) (by have := HL.out; omega)
    have ht : (x5_1 + 1).toNat = i + 1 := by omega
    refine ⟨_, x5_1 + 1, rfl, by first | rfl | (rw [hw]) | (simp [hw]), ⟨by omega⟩, ⟨?_⟩, ⟨?_⟩, HK, HB⟩
    ·rw [ht, HN.out, HX'.out]; omega
    ·have h := HO.out
     have hS : (midL mkKeyS cntKeyS ll a i).set i (mkKeyS y (a + cntKeySS (ll.take i))) = midL mkKeyS cntKeyS ll a (i + 1) := HS.out
     rw [← HX'.out] at hS
     rw [ht, ← hS, hi]
     exact h
  ·have c3b0 : decide (x5_1 < (ll.length : Int)) = false := decide_eq_false c3
   have hI := HI.out
   have hx := HX.out
   have ho := HO.out
   have e1 : x5_1.toNat = ll.length := by omega
   rw [e1, List.take_length] at hx
   rw [e1, midL_all] at ho
   have HO' := aA.mk ho
   have HX' := aA.mk hx
   clear hI hx ho e1 c3
   go_wp2
   go_ret
   exact ⟨by rw [HX'.out]; rfl, HO'.out, HB.out, HK.out⟩
set_option maxHeartbeats 4000000 in
set_option maxRecDepth 100000 in
theorem laws_markNode.calls (P0_0_ : Nat → Prop) (u9000_ : Value) (l0_0 : List (List S27)) (a1 : Int) (r1 : Int) (r2 : List (List S27)) (w0 w : World) (hB : Below w0.heap.size w0 w) (ho0_0 : Kd.S (Kd.slice 27 k27) 40 w w0.heap.size P0_0_ u9000_ l0_0) (h : laws_markKeySS.f l0_0 a1 = some (r1, r2)) :
  Calls Try.prog 26 #[.agg #[u9000_], .int .i64 a1] w fun e w' => e = .returned (.int .i64 r1) ∧ Kd.S (Kd.slice 27 k27) 40 w' w0.heap.size (fun k_ => (P0_0_ k_ ∨ w.heap.size ≤ k_)) u9000_ r2 ∧ Below w0.heap.size w0 w' ∧ Kept w w' (fun k_ => P0_0_ k_) := by
 have hu := Try.underlying32
 obtain ⟨A, c, rfl⟩ := Kd.S_slice ho0_0
 have HO := aA.mk ho0_0
 have HB := aA.mk hB
 have H := aA.mk h
 clear ho0_0 hB h
 go_enter Try.func26, Try.ntmps26
 go_wp2_with (first | ((with_reducible refine bA (N := 2) rfl ?_); refine bC ?hg (N := 2) ?hd (cs := #[.slice A l0_0.length c]) (t := 32) ?hr ?_; (case hd => rfl); (case hg => rfl); (case hr => first | (go_simp; done) | (go_simp; rfl)); intro gb hg_ w1 hbox hb; have HBX := aA.mk hb; have hz : w1.cell? ⟨gb, 0, none⟩ = some (.slice A l0_0.length c) := (aD hbox 0).trans rfl; clear hbox hb hg_) | ((with_reducible refine bD (f := 59) rfl ?_); refine bL (some 8) rfl rfl Try.func59 (by kernel_rfl) rfl #[.slice A l0_0.length c, .int .i64 a1] rfl (by (try simp only [List.map_toArray, List.map_cons, List.map_nil]); first | done | rfl) ?_; (with_reducible refine (laws_markKeySS.calls P0_0_ _ l0_0 a1 r1 r2 w0 w1 ?s1 ?s2 H.out).mono ?_); (case s1 => exact below_then HB.out HB.out.size HBX.out); (case s2 => exact Kd.bM HO.out HBX.out); rintro e w2 ⟨rfl, hs, hb2, hk⟩; refine ⟨_, rfl, ?_⟩; have HS := aA.mk hs; have HB2 := aA.mk hb2; have HK := aA.mk hk; clear hs hb2 hk))
 go_ret
 exact ⟨rfl, Kd.bP HS.out (fun k_ hk => hk.imp (fun h => h) (fun h => Nat.le_trans HBX.out.size h)), HB2.out, (Kept.of_below HBX.out _).then_ HK.out (fun k_ hk => .inl hk)⟩
set_option maxHeartbeats 8000000 in
set_option maxRecDepth 100000 in
theorem walkFnExactNodePutbig (A0_0 : Option Addr) (c0_0 : Nat) (l0_0 : List (List (S50))) (a1_0 : Int) (a1_1 : Int) (a1_2 : Int) (a1_3 : Int) (a1_4 : Int) (k1 : Nat) (r1_0 : Int) (w : World) (hr0_0 : Kd.C (Kd.slice 50 k50) w A0_0 l0_0.length l0_0) (hc0_0 : l0_0.length ≤ c0_0) (Q1x : laws_szNode.f k1 l0_0 1048576 = some r1_0) (pr1_0 : r1_0 < 0) :
  Calls Try.prog 8 #[.agg #[.slice A0_0 l0_0.length c0_0], .agg #[.int .i64 a1_0, .int .i64 a1_1, .int .i64 a1_2, .int .i64 a1_3, .int .i64 a1_4]] w fun e w' => e = .returned (.bool true) ∧ Below w.heap.size w w' := by
 have hu24 := Try.underlying24
 have hu50 := Try.underlying50
 have HR0_0 := aA.mk hr0_0
 have HC0_0 := aA.mk hc0_0
 clear hr0_0 hc0_0
 have Q1 := aA.mk Q1x
 clear Q1x
 have dr1_0 : decide (r1_0 < 0) = true := by simp; omega
 clear pr1_0
 have HB := aA.mk (Below.refl w.heap.size w)
 have HORD := aA.mk (Nat.le_refl w.heap.size)
 have HT := aA.mk (Nat.le_refl w.heap.size)
 go_enter Try.func8, Try.ntmps8
 go_wp2_with (first | ((with_reducible refine bA (N := 2) rfl ?_); refine bC ?hg (N := 2) ?hd (cs := #[.slice A0_0 l0_0.length c0_0]) (t := 24) ?hr ?_; (case hd => rfl); (case hg => rfl); (case hr => first | (go_simp; done) | (go_simp; rfl)); intro gb1 hg_ w1 hbox hb; have hge_ : w.heap.size ≤ gb1 := (by rw [hg_]; exact HT.out); have hlt_ : gb1 + 1 ≤ w1.heap.size := aY hbox; replace HB := aA.mk (aT HB.out hb); replace BK1 := aA.mk (hbox); replace HORD := aA.mk (And.intro HORD.out (And.intro hge_ (Nat.le_succ gb1))); replace HT := aA.mk (hlt_); clear hb hbox hg_ hge_ hlt_; have hzgb1_0_1 := cs1 BK1.out; have hygb1_0_1 := fs1 BK1.out) | ((with_reducible refine bA (N := 3) rfl ?_); refine bC ?hg (N := 3) ?hd (cs := #[.int .i64 a1_0, .int .i64 a1_1, .int .i64 a1_2, .int .i64 a1_3, .int .i64 a1_4]) (t := 50) ?hr ?_; (case hd => rfl); (case hg => rfl); (case hr => first | (go_simp; done) | (go_simp; rfl)); intro gb2 hg_ w2 hbox hb; have hge_ : (gb1 + 1) ≤ gb2 := (by rw [hg_]; exact HT.out); have hlt_ : gb2 + 1 ≤ w2.heap.size := aY hbox; replace BK1 := aA.mk (aG BK1.out hb); replace HB := aA.mk (aT HB.out hb); replace BK2 := aA.mk (hbox); replace HORD := aA.mk (And.intro HORD.out (And.intro hge_ (Nat.le_succ gb2))); replace HT := aA.mk (hlt_); clear hb hbox hg_ hge_ hlt_; have hzgb1_0_2 := cs1 BK1.out; have hygb1_0_2 := fs1 BK1.out; obtain ⟨hzgb2_0_2, hzgb2_1_2, hzgb2_2_2, hzgb2_3_2, hzgb2_4_2⟩ := cs5 BK2.out; obtain ⟨hygb2_0_2, hygb2_1_2, hygb2_2_2, hygb2_3_2, hygb2_4_2⟩ := fs5 BK2.out) | ((with_reducible refine bD (f := 14) rfl ?_); refine bL (some 18) rfl rfl Try.func14 (by kernel_rfl) rfl #[.agg #[.slice A0_0 l0_0.length c0_0], .int .i64 1048576] rfl (by (try simp only [List.map_toArray, List.map_cons, List.map_nil]); first | done | rfl) ?_; (with_reducible refine (laws_szNode.calls k1 _ _ l0_0 1048576 r1_0 _ ?s1 ?s2 Q1.out).mono ?_); (case s1 => exact (Kd.bN HR0_0.out HB.out)); (case s2 => exact HC0_0.out); rintro e_ w3 ⟨rfl, hb⟩; refine ⟨_, rfl, ?_⟩; replace BK1 := aA.mk (aG BK1.out hb); replace BK2 := aA.mk (aG BK2.out hb); replace HB := aA.mk (aT HB.out hb); replace HT := aA.mk (Nat.le_trans HT.out hb.size); (try clear hb); have hzgb1_0_3 := cs1 BK1.out; have hygb1_0_3 := fs1 BK1.out; obtain ⟨hzgb2_0_3, hzgb2_1_3, hzgb2_2_3, hzgb2_3_3, hzgb2_4_3⟩ := cs5 BK2.out; obtain ⟨hygb2_0_3, hygb2_1_3, hygb2_2_3, hygb2_3_3, hygb2_4_3⟩ := fs5 BK2.out))
 have hres_ := @results_tmp Try.f8 4 (by kernel_rfl)
 refine bodyPost_ret (fn := Try.f8) (P := Try.prog) (hres_ _ _ _) rfl ?_
 exact ⟨rfl, HB.out⟩
set_option maxHeartbeats 8000000 in
set_option maxRecDepth 100000 in
theorem walkFnExactNodePut (A0_0 : Option Addr) (c0_0 : Nat) (l0_0 : List (List (S50))) (a1_0 : Int) (a1_1 : Int) (a1_2 : Int) (a1_3 : Int) (a1_4 : Int) (k1 : Nat) (k2 : Nat) (k4 : Nat) (k5 : Nat) (k6 : Nat) (k7 : Nat) (k10 : Nat) (r1_0 : Int) (r2_0 : List (List (S27))) (r3_1 : Int) (r3_2 : Int) (r3_3 : Int) (r3_4 : Int) (r3_5 : Int) (r4_1 : List (List (S27))) (r4_2 : Bool) (r8_1 : Int) (r8_2 : List (List S27)) (r9_1 : Int) (r9_2 : List (List S27)) (w : World) (hr0_0 : Kd.C (Kd.slice 50 k50) w A0_0 l0_0.length l0_0) (hc0_0 : l0_0.length ≤ c0_0) (Q1x : laws_szNode.f k1 l0_0 1048576 = some r1_0) (Q2x : laws_toNode.f k2 l0_0 = some r2_0) (Q3x : laws_toKey.f a1_0 a1_1 a1_2 a1_3 a1_4 = some (r3_1, r3_2, r3_3, r3_4, r3_5)) (Q4x : spec_NodePut.f k4 r2_0 r3_1 r3_2 r3_3 r3_4 r3_5 = some (r4_1, r4_2)) (Q5x : impl_NodePut.f k5 r2_0 r3_1 r3_2 r3_3 r3_4 r3_5 = some (r4_1, r4_2)) (Q6x : laws_eqNode.f k6 r4_1 r4_1 = some true) (Q7x : laws_eqNode.f k7 r2_0 r2_0 = some true) (Q8x : laws_markKeySS.f r2_0 1 = some (r8_1, r8_2)) (Q9x : laws_markKeySS.f r4_1 1 = some (r9_1, r9_2)) (Q10x : laws_heldNode.f k10 r9_2 1 = some r9_1) (pr1_0 : 0 ≤ r1_0) (pr8_1 : 0 ≤ r8_1) (pr9_1 : 0 ≤ r9_1) :
  Calls Try.prog 8 #[.agg #[.slice A0_0 l0_0.length c0_0], .agg #[.int .i64 a1_0, .int .i64 a1_1, .int .i64 a1_2, .int .i64 a1_3, .int .i64 a1_4]] w fun e w' => e = .returned (.bool true) ∧ Below w.heap.size w w' := by
 have hu24 := Try.underlying24
 have hu32 := Try.underlying32
 have hu50 := Try.underlying50
 have HR0_0 := aA.mk hr0_0
 have HC0_0 := aA.mk hc0_0
 clear hr0_0 hc0_0
 have Q1 := aA.mk Q1x
 clear Q1x
 have Q2 := aA.mk Q2x
 clear Q2x
 have Q3 := aA.mk Q3x
 clear Q3x
 have Q4 := aA.mk Q4x
 clear Q4x
 have Q5 := aA.mk Q5x
 clear Q5x
 have Q6 := aA.mk Q6x
 clear Q6x
 have Q7 := aA.mk Q7x
 clear Q7x
 have Q8 := aA.mk Q8x
 clear Q8x
 have Q9 := aA.mk Q9x
 clear Q9x
 have Q10 := aA.mk Q10x
 clear Q10x
 have dr1_0 : decide (r1_0 < 0) = false := by simp; omega
 clear pr1_0
 have dr8_1 : decide (r8_1 < 0) = false := by simp; omega
 clear pr8_1
 have dr9_1 : decide (r9_1 < 0) = false := by simp; omega
 clear pr9_1
 have HB := aA.mk (Below.refl w.heap.size w)
 have HORD := aA.mk (Nat.le_refl w.heap.size)
 have HT := aA.mk (Nat.le_refl w.heap.size)
 go_enter Try.func8, Try.ntmps8
 go_wp2_with (first | ((with_reducible refine bA (N := 2) rfl ?_); refine bC ?hg (N := 2) ?hd (cs := #[.slice A0_0 l0_0.length c0_0]) (t := 24) ?hr ?_; (case hd => rfl); (case hg => rfl); (case hr => first | (go_simp; done) | (go_simp; rfl)); intro gb1 hg_ w1 hbox hb; have hge_ : w.heap.size ≤ gb1 := (by rw [hg_]; exact HT.out); have hlt_ : gb1 + 1 ≤ w1.heap.size := aY hbox; replace HB := aA.mk (aT HB.out hb); replace BK1 := aA.mk (hbox); replace HORD := aA.mk (And.intro HORD.out (And.intro hge_ (Nat.le_succ gb1))); replace HT := aA.mk (hlt_); clear hb hbox hg_ hge_ hlt_; have hzgb1_0_1 := cs1 BK1.out; have hygb1_0_1 := fs1 BK1.out) | ((with_reducible refine bA (N := 3) rfl ?_); refine bC ?hg (N := 3) ?hd (cs := #[.int .i64 a1_0, .int .i64 a1_1, .int .i64 a1_2, .int .i64 a1_3, .int .i64 a1_4]) (t := 50) ?hr ?_; (case hd => rfl); (case hg => rfl); (case hr => first | (go_simp; done) | (go_simp; rfl)); intro gb2 hg_ w2 hbox hb; have hge_ : (gb1 + 1) ≤ gb2 := (by rw [hg_]; exact HT.out); have hlt_ : gb2 + 1 ≤ w2.heap.size := aY hbox; replace BK1 := aA.mk (aG BK1.out hb); replace HB := aA.mk (aT HB.out hb); replace BK2 := aA.mk (hbox); replace HORD := aA.mk (And.intro HORD.out (And.intro hge_ (Nat.le_succ gb2))); replace HT := aA.mk (hlt_); clear hb hbox hg_ hge_ hlt_; have hzgb1_0_2 := cs1 BK1.out; have hygb1_0_2 := fs1 BK1.out; obtain ⟨hzgb2_0_2, hzgb2_1_2, hzgb2_2_2, hzgb2_3_2, hzgb2_4_2⟩ := cs5 BK2.out; obtain ⟨hygb2_0_2, hygb2_1_2, hygb2_2_2, hygb2_3_2, hygb2_4_2⟩ := fs5 BK2.out) | ((with_reducible refine bD (f := 14) rfl ?_); refine bL (some 18) rfl rfl Try.func14 (by kernel_rfl) rfl #[.agg #[.slice A0_0 l0_0.length c0_0], .int .i64 1048576] rfl (by (try simp only [List.map_toArray, List.map_cons, List.map_nil]); first | done | rfl) ?_; (with_reducible refine (laws_szNode.calls k1 _ _ l0_0 1048576 r1_0 _ ?s1 ?s2 Q1.out).mono ?_); (case s1 => exact (Kd.bN HR0_0.out HB.out)); (case s2 => exact HC0_0.out); rintro e_ w3 ⟨rfl, hb⟩; refine ⟨_, rfl, ?_⟩; replace BK1 := aA.mk (aG BK1.out hb); replace BK2 := aA.mk (aG BK2.out hb); replace HB := aA.mk (aT HB.out hb); replace HT := aA.mk (Nat.le_trans HT.out hb.size); (try clear hb); have hzgb1_0_3 := cs1 BK1.out; have hygb1_0_3 := fs1 BK1.out; obtain ⟨hzgb2_0_3, hzgb2_1_3, hzgb2_2_3, hzgb2_3_3, hzgb2_4_3⟩ := cs5 BK2.out; obtain ⟨hygb2_0_3, hygb2_1_3, hygb2_2_3, hygb2_3_3, hygb2_4_3⟩ := fs5 BK2.out))
 have n_ := aA.mk (aJ BK1.out)
 clear BK1
 have BK1 := n_
 clear n_
 have n_ := aA.mk (aJ BK2.out)
 clear BK2
 have BK2 := n_
 clear n_
 have n_ := aA.mk (aH HB.out)
 clear HB
 have HB := n_
 clear n_
 have n_ := aA.mk (show _ ≤ w3.drew.heap.size from HT.out)
 clear HT
 have HT := n_
 clear n_
 refine start_ (n := 11) (S := fun w' => w'.cell? ⟨gb1, 0, none⟩ = some (.slice A0_0 l0_0.length c0_0) ∧ w'.cell? ⟨gb2, 0, none⟩ = some (.int .i64 a1_0) ∧ w'.cell? ⟨gb2, 1, none⟩ = some (.int .i64 a1_1) ∧ w'.cell? ⟨gb2, 2, none⟩ = some (.int .i64 a1_2) ∧ w'.cell? ⟨gb2, 3, none⟩ = some (.int .i64 a1_3) ∧ w'.cell? ⟨gb2, 4, none⟩ = some (.int .i64 a1_4)) (ds := [9]) #[false, false, false, false, false, false, false, false, false, false, false] (by kernel_rfl) rfl rfl ⟨(aD BK1.out 0).trans rfl, (aD BK2.out 0).trans rfl, (aD BK2.out 1).trans rfl, (aD BK2.out 2).trans rfl, (aD BK2.out 3).trans rfl, (aD BK2.out 4).trans rfl⟩ (fun hHeld => ?_)
 generalize w3.drew = w4 at BK1 BK2 HB HT hHeld ⊢
 refine take_ (i := 0) (N := some 22) (v := ?_) (a' := ?_) #[true, false, false, false, false, false, false, false, false, false, false] rfl rfl (by kernel_rfl) (fun _ _ _ h => h) (Or.inl ⟨by rfl, ?_⟩) hHeld ?_ ?_
 rotate_left
 ·rintro w' ⟨s0, s1, s2, s3, s4, s5⟩
  go_simp
  with_reducible rfl
 rotate_left
 ·simp only [Act.put, lA, lB, lC, aU, aV]
  rfl
 refine take_ (i := 2) (N := some 24) (v := ?_) (a' := ?_) #[true, false, true, false, false, false, false, false, false, false, false] rfl rfl (by kernel_rfl) (fun _ _ _ h => h) (Or.inl ⟨by rfl, ?_⟩) hHeld ?_ ?_
 rotate_left
 ·rintro w' ⟨s0, s1, s2, s3, s4, s5⟩
  go_simp
  with_reducible rfl
 rotate_left
 ·simp only [Act.put, lA, lB, lC, aU, aV]
  rfl
 refine join_ (σ := Nat × Nat × Nat × Option Addr × Nat × Option Addr × Nat) 2 #[true, true, true, true, true, true, true, true, true, false, false] (fun s_ => [(23, .agg #[.slice s_.2.2.2.1 r2_0.length s_.2.2.2.2.1]), (25, .agg #[.int .i64 r3_1, .int .i64 r3_2, .int .i64 r3_3, .int .i64 r3_4, .int .i64 r3_5]), (26, .tuple #[.agg #[.slice s_.2.2.2.2.2.1 r4_1.length s_.2.2.2.2.2.2], .bool r4_2]), (21, .tuple #[.agg #[.slice s_.2.2.2.2.2.1 r4_1.length s_.2.2.2.2.2.2], .bool r4_2]), (27, .agg #[.slice s_.2.2.2.2.2.1 r4_1.length s_.2.2.2.2.2.2]), (28, .bool r4_2), (6, .pointer (some ⟨s_.1, 0, none⟩))]) (fun s_ w' => (w'.cell? ⟨gb1, 0, none⟩ = some (.slice A0_0 l0_0.length c0_0) ∧ w'.cell? ⟨gb2, 0, none⟩ = some (.int .i64 a1_0) ∧ w'.cell? ⟨gb2, 1, none⟩ = some (.int .i64 a1_1) ∧ w'.cell? ⟨gb2, 2, none⟩ = some (.int .i64 a1_2) ∧ w'.cell? ⟨gb2, 3, none⟩ = some (.int .i64 a1_3) ∧ w'.cell? ⟨gb2, 4, none⟩ = some (.int .i64 a1_4)) ∧ aA (w'.heap[gb1]? = some (.cells #[.slice A0_0 l0_0.length c0_0] 24 (0, 0))) ∧ aA (w'.heap[gb2]? = some (.cells #[.int .i64 a1_0, .int .i64 a1_1, .int .i64 a1_2, .int .i64 a1_3, .int .i64 a1_4] 50 (0, 0))) ∧ aA (Below w.heap.size w w') ∧ aA (w'.heap[s_.1]? = some (.cells #[.slice none 0 0] 32 (0, 0))) ∧ aA (((gb2 + 1) ≤ s_.1 ∧ (gb2 + 1) ≤ s_.2.1) ∧ (s_.2.1 ≤ s_.2.2.1) ∧ (s_.1 < s_.2.1 ∨ s_.2.2.1 ≤ s_.1) ∧ s_.1 + 1 ≤ w'.heap.size ∧ s_.2.2.1 ≤ w'.heap.size) ∧ aA (Kd.F (Kd.slice 27 k27) w' (In s_.2.1 s_.2.2.1) s_.2.2.2.2.2.1 r4_1.length r4_1) ∧ aA (r4_1.length ≤ s_.2.2.2.2.2.2)) ?_ ?_
 rotate_left
 ·intro hCont
  refine two_ (i := 1) (j := 8) (Ni := some 23) (Nj := some 6) #[true, true, true, false, false, false, false, false, false, false, false] #[true, false, true, false, false, false, false, false, true, false, false] rfl rfl rfl rfl (by kernel_rfl) (by decide) (by decide) (fun K hK => ?_) (fun K hK => ?_)
  ·skip
   refine goes_ Try.func16 (by kernel_rfl) rfl #[.agg #[.slice A0_0 l0_0.length c0_0]] (by rfl) rfl rfl (by (try simp only [List.map_toArray, List.map_cons, List.map_nil]); first | done | rfl) ?_
   (with_reducible refine (laws_toNode.calls k2 _ _ l0_0 r2_0 _ ?s1 ?s2 Q2.out).mono ?_)
   (case s1 => exact (Kd.bN HR0_0.out HB.out))
   (case s2 => exact HC0_0.out)
   rintro e_ w5 ⟨v0_, rfl, ho0, hb⟩
   refine ⟨_, rfl, ?_⟩
   obtain ⟨lo5, hi5, el_, eh_, ol_, oh_⟩ := Mem.times HT.out hb
   (try rw [← el_] at ho0)
   obtain ⟨A5_0, c5_0, ev_, hc0_, hf0_, hs0_⟩ := Mem.new_S ho0 eh_
   subst ev_
   replace BK1 := aA.mk (aG BK1.out hb)
   replace BK2 := aA.mk (aG BK2.out hb)
   replace HB := aA.mk (aT HB.out hb)
   replace HF5_0 := aA.mk (hf0_)
   replace HC5_0 := aA.mk (hc0_)
   replace HS5_0 := aA.mk (hs0_)
   replace HORD := aA.mk (And.intro HORD.out (And.intro ol_ oh_))
   replace HT := aA.mk (Nat.le_of_eq eh_)
   clear ol_ oh_ el_ eh_ ho0 hf0_ hc0_ hs0_
   (try clear hb)
   refine hK.out _ _ ⟨(aD BK1.out 0).trans rfl, (aD BK2.out 0).trans rfl, (aD BK2.out 1).trans rfl, (aD BK2.out 2).trans rfl, (aD BK2.out 3).trans rfl, (aD BK2.out 4).trans rfl⟩ (fun hHeld => ?_)
   clear hK K
   refine bJ (a' := ?_) ?_ ?_
   rotate_left
   ·show Act.put _ (some 23) _ = _
    simp only [Act.put, lA, lB, lC, aU, aV]
    rfl
   refine two_ (i := 3) (j := 8) (Ni := some 25) (Nj := some 6) #[true, true, true, true, false, false, false, false, false, false, false] #[true, true, true, false, false, false, false, false, true, false, false] rfl rfl rfl rfl (by kernel_rfl) (by decide) (by decide) (fun K hK => ?_) (fun K hK => ?_)
   ·skip
    refine goes_ Try.func36 (by kernel_rfl) rfl #[.agg #[.int .i64 a1_0, .int .i64 a1_1, .int .i64 a1_2, .int .i64 a1_3, .int .i64 a1_4]] (by rfl) rfl rfl (by (try simp only [List.map_toArray, List.map_cons, List.map_nil]); first | done | rfl) ?_
    (with_reducible refine (laws_toKey.calls a1_0 a1_1 a1_2 a1_3 a1_4 r3_1 r3_2 r3_3 r3_4 r3_5 _ Q3.out).mono ?_)
    rintro e_ w6 ⟨rfl, hb⟩
    refine ⟨_, rfl, ?_⟩
    replace HF5_0 := aA.mk (Kd.bH HF5_0.out hb)
    replace HS5_0 := aA.mk (Kd.bM HS5_0.out hb)
    replace BK1 := aA.mk (aG BK1.out hb)
    replace BK2 := aA.mk (aG BK2.out hb)
    replace HB := aA.mk (aT HB.out hb)
    replace HT := aA.mk (Nat.le_trans HT.out hb.size)
    (try clear hb)
    refine hK.out _ _ ⟨(aD BK1.out 0).trans rfl, (aD BK2.out 0).trans rfl, (aD BK2.out 1).trans rfl, (aD BK2.out 2).trans rfl, (aD BK2.out 3).trans rfl, (aD BK2.out 4).trans rfl⟩ (fun hHeld => ?_)
    clear hK K
    refine bJ (a' := ?_) ?_ ?_
    rotate_left
    ·show Act.put _ (some 25) _ = _
     simp only [Act.put, lA, lB, lC, aU, aV]
     rfl
    refine two_ (i := 4) (j := 8) (Ni := some 26) (Nj := some 6) #[true, true, true, true, true, false, false, false, false, false, false] #[true, true, true, true, false, false, false, false, true, false, false] rfl rfl rfl rfl (by kernel_rfl) (by decide) (by decide) (fun K hK => ?_) (fun K hK => ?_)
    ·skip
     refine goes_ Try.func35 (by kernel_rfl) rfl #[.agg #[.slice A5_0 r2_0.length c5_0], .agg #[.int .i64 r3_1, .int .i64 r3_2, .int .i64 r3_3, .int .i64 r3_4, .int .i64 r3_5]] (by rfl) rfl rfl (by (try simp only [List.map_toArray, List.map_cons, List.map_nil]); first | done | rfl) ?_
     (with_reducible refine (spec_NodePut.calls k4 _ _ r2_0 r3_1 r3_2 r3_3 r3_4 r3_5 r4_1 r4_2 _ ?s1 ?s2 Q4.out).mono ?_)
     (case s1 => exact (Kd.F_now HF5_0.out))
     (case s2 => exact HC5_0.out)
     rintro e_ w7 ⟨v0_, rfl, ho0, hb⟩
     refine ⟨_, rfl, ?_⟩
     obtain ⟨lo7, hi7, el_, eh_, ol_, oh_⟩ := Mem.times HT.out hb
     (try rw [← el_] at ho0)
     obtain ⟨A7_0, c7_0, ev_, hc0_, hf0_⟩ := Mem.new_N (Kd.N_mono (ok' := fun k_ => lo7 ≤ k_) ho0 (fun _ h_ => by first | exact h_ | exact h_.1)) eh_
     subst ev_
     replace HF5_0 := aA.mk (Kd.bH HF5_0.out hb)
     replace HS5_0 := aA.mk (Kd.bM HS5_0.out hb)
     replace BK1 := aA.mk (aG BK1.out hb)
     replace BK2 := aA.mk (aG BK2.out hb)
     replace HB := aA.mk (aT HB.out hb)
     replace HF7_0 := aA.mk (hf0_)
     replace HC7_0 := aA.mk (hc0_)
     replace HORD := aA.mk (And.intro HORD.out (And.intro ol_ oh_))
     replace HT := aA.mk (Nat.le_of_eq eh_)
     clear ol_ oh_ el_ eh_ ho0 hf0_ hc0_
     (try clear hb)
     refine hK.out _ _ ⟨(aD BK1.out 0).trans rfl, (aD BK2.out 0).trans rfl, (aD BK2.out 1).trans rfl, (aD BK2.out 2).trans rfl, (aD BK2.out 3).trans rfl, (aD BK2.out 4).trans rfl⟩ (fun hHeld => ?_)
     clear hK K
     refine bJ (a' := ?_) ?_ ?_
     rotate_left
     ·show Act.put _ (some 26) _ = _
      simp only [Act.put, lA, lB, lC, aU, aV]
      rfl
     refine aW (i := 5) (N := some 21) (v := ?_) (a' := ?_) #[true, true, true, true, true, true, false, false, false, false, false] rfl rfl (by kernel_rfl) (fun _ _ _ h => h) (Or.inl ⟨by rfl, ?_⟩) ?_ ?_
     rotate_left
     ·intro w'
      go_simp
      with_reducible rfl
     rotate_left
     ·simp only [Act.put, lA, lB, lC, aU, aV]
      rfl
     refine aW (i := 6) (N := some 27) (v := ?_) (a' := ?_) #[true, true, true, true, true, true, true, false, false, false, false] rfl rfl (by kernel_rfl) (fun _ _ _ h => h) (Or.inl ⟨by rfl, ?_⟩) ?_ ?_
     rotate_left
     ·intro w'
      go_simp
      with_reducible rfl
     rotate_left
     ·simp only [Act.put, lA, lB, lC, aU, aV]
      rfl
     refine aW (i := 7) (N := some 28) (v := ?_) (a' := ?_) #[true, true, true, true, true, true, true, true, false, false, false] rfl rfl (by kernel_rfl) (fun _ _ _ h => h) (Or.inl ⟨by rfl, ?_⟩) ?_ ?_
     rotate_left
     ·intro w'
      go_simp
      with_reducible rfl
     rotate_left
     ·simp only [Act.put, lA, lB, lC, aU, aV]
      rfl
     refine one_ (i := 8) (N := some 6) #[true, true, true, true, true, true, true, true, true, false, false] rfl rfl (by kernel_rfl) (by decide) (fun K hK => ?_)
     refine box_step ?hg (N := 6) ?hd (cs := #[.slice none 0 0]) (t := 32) ?hr ?_
     (case hd => rfl)
     (case hg => rfl)
     (case hr => first | (go_simp; done) | (go_simp; rfl))
     intro gb8 hg_ w8 hbox hb
     have hge_ : hi7 ≤ gb8 := (by rw [hg_]; exact HT.out)
     have hlt_ : gb8 + 1 ≤ w8.heap.size := aY hbox
     replace HF5_0 := aA.mk (Kd.bH HF5_0.out hb)
     replace HS5_0 := aA.mk (Kd.bM HS5_0.out hb)
     replace HF7_0 := aA.mk (Kd.bH HF7_0.out hb)
     replace BK1 := aA.mk (aG BK1.out hb)
     replace BK2 := aA.mk (aG BK2.out hb)
     replace HB := aA.mk (aT HB.out hb)
     replace BK8 := aA.mk (hbox)
     replace HORD := aA.mk (And.intro HORD.out (And.intro hge_ (Nat.le_succ gb8)))
     replace HT := aA.mk (hlt_)
     clear hb hbox hg_ hge_ hlt_
     refine hK.out _ _ ⟨(aD BK1.out 0).trans rfl, (aD BK2.out 0).trans rfl, (aD BK2.out 1).trans rfl, (aD BK2.out 2).trans rfl, (aD BK2.out 3).trans rfl, (aD BK2.out 4).trans rfl⟩ (fun hHeld => ?_)
     clear hK K
     refine bJ (a' := ?_) ?_ ?_
     rotate_left
     ·show Act.put _ (some 6) _ = _
      simp only [Act.put, lA, lB, lC, aU, aV]
      rfl
     exact bJ (by simp only [putAll, Act.put, lA, lB, lC]) (hCont (gb8, lo7, hi7, A5_0, c5_0, A7_0, c7_0) _ ⟨hHeld, BK1, BK2, HB, BK8, ⟨by have o_ := HORD.out; have t_ := HT.out; simp only []; omega⟩, HF7_0, HC7_0⟩)
    ·skip
     refine box_step ?hg (N := 6) ?hd (cs := #[.slice none 0 0]) (t := 32) ?hr ?_
     (case hd => rfl)
     (case hg => rfl)
     (case hr => first | (go_simp; done) | (go_simp; rfl))
     intro gb9 hg_ w9 hbox hb
     have hge_ : hi5 ≤ gb9 := (by rw [hg_]; exact HT.out)
     have hlt_ : gb9 + 1 ≤ w9.heap.size := aY hbox
     replace HF5_0 := aA.mk (Kd.bH HF5_0.out hb)
     replace HS5_0 := aA.mk (Kd.bM HS5_0.out hb)
     replace BK1 := aA.mk (aG BK1.out hb)
     replace BK2 := aA.mk (aG BK2.out hb)
     replace HB := aA.mk (aT HB.out hb)
     replace BK9 := aA.mk (hbox)
     replace HORD := aA.mk (And.intro HORD.out (And.intro hge_ (Nat.le_succ gb9)))
     replace HT := aA.mk (hlt_)
     clear hb hbox hg_ hge_ hlt_
     refine hK.out _ _ ⟨(aD BK1.out 0).trans rfl, (aD BK2.out 0).trans rfl, (aD BK2.out 1).trans rfl, (aD BK2.out 2).trans rfl, (aD BK2.out 3).trans rfl, (aD BK2.out 4).trans rfl⟩ (fun hHeld => ?_)
     clear hK K
     refine bJ (a' := ?_) ?_ ?_
     rotate_left
     ·show Act.put _ (some 6) _ = _
      simp only [Act.put, lA, lB, lC, aU, aV]
      rfl
     refine one_ (i := 4) (N := some 26) #[true, true, true, true, true, false, false, false, true, false, false] rfl rfl (by kernel_rfl) (by decide) (fun K hK => ?_)
     refine goes_ Try.func35 (by kernel_rfl) rfl #[.agg #[.slice A5_0 r2_0.length c5_0], .agg #[.int .i64 r3_1, .int .i64 r3_2, .int .i64 r3_3, .int .i64 r3_4, .int .i64 r3_5]] (by rfl) rfl rfl (by (try simp only [List.map_toArray, List.map_cons, List.map_nil]); first | done | rfl) ?_
     (with_reducible refine (spec_NodePut.calls k4 _ _ r2_0 r3_1 r3_2 r3_3 r3_4 r3_5 r4_1 r4_2 _ ?s1 ?s2 Q4.out).mono ?_)
     (case s1 => exact (Kd.F_now HF5_0.out))
     (case s2 => exact HC5_0.out)
     rintro e_ w10 ⟨v0_, rfl, ho0, hb⟩
     refine ⟨_, rfl, ?_⟩
     obtain ⟨lo10, hi10, el_, eh_, ol_, oh_⟩ := Mem.times HT.out hb
     (try rw [← el_] at ho0)
     obtain ⟨A10_0, c10_0, ev_, hc0_, hf0_⟩ := Mem.new_N (Kd.N_mono (ok' := fun k_ => lo10 ≤ k_) ho0 (fun _ h_ => by first | exact h_ | exact h_.1)) eh_
     subst ev_
     replace HF5_0 := aA.mk (Kd.bH HF5_0.out hb)
     replace HS5_0 := aA.mk (Kd.bM HS5_0.out hb)
     replace BK1 := aA.mk (aG BK1.out hb)
     replace BK2 := aA.mk (aG BK2.out hb)
     replace BK9 := aA.mk (aG BK9.out hb)
     replace HB := aA.mk (aT HB.out hb)
     replace HF10_0 := aA.mk (hf0_)
     replace HC10_0 := aA.mk (hc0_)
     replace HORD := aA.mk (And.intro HORD.out (And.intro ol_ oh_))
     replace HT := aA.mk (Nat.le_of_eq eh_)
     clear ol_ oh_ el_ eh_ ho0 hf0_ hc0_
     (try clear hb)
     refine hK.out _ _ ⟨(aD BK1.out 0).trans rfl, (aD BK2.out 0).trans rfl, (aD BK2.out 1).trans rfl, (aD BK2.out 2).trans rfl, (aD BK2.out 3).trans rfl, (aD BK2.out 4).trans rfl⟩ (fun hHeld => ?_)
     clear hK K
     refine bJ (a' := ?_) ?_ ?_
     rotate_left
     ·show Act.put _ (some 26) _ = _
      simp only [Act.put, lA, lB, lC, aU, aV]
      rfl
     refine aW (i := 5) (N := some 21) (v := ?_) (a' := ?_) #[true, true, true, true, true, true, false, false, true, false, false] rfl rfl (by kernel_rfl) (fun _ _ _ h => h) (Or.inl ⟨by rfl, ?_⟩) ?_ ?_
     rotate_left
     ·intro w'
      go_simp
      with_reducible rfl
     rotate_left
     ·simp only [Act.put, lA, lB, lC, aU, aV]
      rfl
     refine aW (i := 6) (N := some 27) (v := ?_) (a' := ?_) #[true, true, true, true, true, true, true, false, true, false, false] rfl rfl (by kernel_rfl) (fun _ _ _ h => h) (Or.inl ⟨by rfl, ?_⟩) ?_ ?_
     rotate_left
     ·intro w'
      go_simp
      with_reducible rfl
     rotate_left
     ·simp only [Act.put, lA, lB, lC, aU, aV]
      rfl
     refine aW (i := 7) (N := some 28) (v := ?_) (a' := ?_) #[true, true, true, true, true, true, true, true, true, false, false] rfl rfl (by kernel_rfl) (fun _ _ _ h => h) (Or.inl ⟨by rfl, ?_⟩) ?_ ?_
     rotate_left
     ·intro w'
      go_simp
      with_reducible rfl
     rotate_left
     ·simp only [Act.put, lA, lB, lC, aU, aV]
      rfl
     exact bJ (by simp only [putAll, Act.put, lA, lB, lC]) (hCont (gb9, lo10, hi10, A5_0, c5_0, A10_0, c10_0) _ ⟨hHeld, BK1, BK2, HB, BK9, ⟨by have o_ := HORD.out; have t_ := HT.out; simp only []; omega⟩, HF10_0, HC10_0⟩)
   ·skip
    refine box_step ?hg (N := 6) ?hd (cs := #[.slice none 0 0]) (t := 32) ?hr ?_
    (case hd => rfl)
    (case hg => rfl)
    (case hr => first | (go_simp; done) | (go_simp; rfl))
    intro gb11 hg_ w11 hbox hb
    have hge_ : hi5 ≤ gb11 := (by rw [hg_]; exact HT.out)
    have hlt_ : gb11 + 1 ≤ w11.heap.size := aY hbox
    replace HF5_0 := aA.mk (Kd.bH HF5_0.out hb)
    replace HS5_0 := aA.mk (Kd.bM HS5_0.out hb)
    replace BK1 := aA.mk (aG BK1.out hb)
    replace BK2 := aA.mk (aG BK2.out hb)
    replace HB := aA.mk (aT HB.out hb)
    replace BK11 := aA.mk (hbox)
    replace HORD := aA.mk (And.intro HORD.out (And.intro hge_ (Nat.le_succ gb11)))
    replace HT := aA.mk (hlt_)
    clear hb hbox hg_ hge_ hlt_
    refine hK.out _ _ ⟨(aD BK1.out 0).trans rfl, (aD BK2.out 0).trans rfl, (aD BK2.out 1).trans rfl, (aD BK2.out 2).trans rfl, (aD BK2.out 3).trans rfl, (aD BK2.out 4).trans rfl⟩ (fun hHeld => ?_)
    clear hK K
    refine bJ (a' := ?_) ?_ ?_
    rotate_left
    ·show Act.put _ (some 6) _ = _
     simp only [Act.put, lA, lB, lC, aU, aV]
     rfl
    refine one_ (i := 3) (N := some 25) #[true, true, true, true, false, false, false, false, true, false, false] rfl rfl (by kernel_rfl) (by decide) (fun K hK => ?_)
    refine goes_ Try.func36 (by kernel_rfl) rfl #[.agg #[.int .i64 a1_0, .int .i64 a1_1, .int .i64 a1_2, .int .i64 a1_3, .int .i64 a1_4]] (by rfl) rfl rfl (by (try simp only [List.map_toArray, List.map_cons, List.map_nil]); first | done | rfl) ?_
    (with_reducible refine (laws_toKey.calls a1_0 a1_1 a1_2 a1_3 a1_4 r3_1 r3_2 r3_3 r3_4 r3_5 _ Q3.out).mono ?_)
    rintro e_ w12 ⟨rfl, hb⟩
    refine ⟨_, rfl, ?_⟩
    replace HF5_0 := aA.mk (Kd.bH HF5_0.out hb)
    replace HS5_0 := aA.mk (Kd.bM HS5_0.out hb)
    replace BK1 := aA.mk (aG BK1.out hb)
    replace BK2 := aA.mk (aG BK2.out hb)
    replace BK11 := aA.mk (aG BK11.out hb)
    replace HB := aA.mk (aT HB.out hb)
    replace HT := aA.mk (Nat.le_trans HT.out hb.size)
    (try clear hb)
    refine hK.out _ _ ⟨(aD BK1.out 0).trans rfl, (aD BK2.out 0).trans rfl, (aD BK2.out 1).trans rfl, (aD BK2.out 2).trans rfl, (aD BK2.out 3).trans rfl, (aD BK2.out 4).trans rfl⟩ (fun hHeld => ?_)
    clear hK K
    refine bJ (a' := ?_) ?_ ?_
    rotate_left
    ·show Act.put _ (some 25) _ = _
     simp only [Act.put, lA, lB, lC, aU, aV]
     rfl
    refine one_ (i := 4) (N := some 26) #[true, true, true, true, true, false, false, false, true, false, false] rfl rfl (by kernel_rfl) (by decide) (fun K hK => ?_)
    refine goes_ Try.func35 (by kernel_rfl) rfl #[.agg #[.slice A5_0 r2_0.length c5_0], .agg #[.int .i64 r3_1, .int .i64 r3_2, .int .i64 r3_3, .int .i64 r3_4, .int .i64 r3_5]] (by rfl) rfl rfl (by (try simp only [List.map_toArray, List.map_cons, List.map_nil]); first | done | rfl) ?_
    (with_reducible refine (spec_NodePut.calls k4 _ _ r2_0 r3_1 r3_2 r3_3 r3_4 r3_5 r4_1 r4_2 _ ?s1 ?s2 Q4.out).mono ?_)
    (case s1 => exact (Kd.F_now HF5_0.out))
    (case s2 => exact HC5_0.out)
    rintro e_ w13 ⟨v0_, rfl, ho0, hb⟩
    refine ⟨_, rfl, ?_⟩
    obtain ⟨lo13, hi13, el_, eh_, ol_, oh_⟩ := Mem.times HT.out hb
    (try rw [← el_] at ho0)
    obtain ⟨A13_0, c13_0, ev_, hc0_, hf0_⟩ := Mem.new_N (Kd.N_mono (ok' := fun k_ => lo13 ≤ k_) ho0 (fun _ h_ => by first | exact h_ | exact h_.1)) eh_
    subst ev_
    replace BK1 := aA.mk (aG BK1.out hb)
    replace BK2 := aA.mk (aG BK2.out hb)
    replace BK11 := aA.mk (aG BK11.out hb)
    replace HB := aA.mk (aT HB.out hb)
    replace HF13_0 := aA.mk (hf0_)
    replace HC13_0 := aA.mk (hc0_)
    replace HORD := aA.mk (And.intro HORD.out (And.intro ol_ oh_))
    replace HT := aA.mk (Nat.le_of_eq eh_)
    (try clear HF5_0)
    (try clear HS5_0)
    (try clear HC5_0)
    clear ol_ oh_ el_ eh_ ho0 hf0_ hc0_
    (try clear hb)
    refine hK.out _ _ ⟨(aD BK1.out 0).trans rfl, (aD BK2.out 0).trans rfl, (aD BK2.out 1).trans rfl, (aD BK2.out 2).trans rfl, (aD BK2.out 3).trans rfl, (aD BK2.out 4).trans rfl⟩ (fun hHeld => ?_)
    clear hK K
    refine bJ (a' := ?_) ?_ ?_
    rotate_left
    ·show Act.put _ (some 26) _ = _
     simp only [Act.put, lA, lB, lC, aU, aV]
     rfl
    refine aW (i := 5) (N := some 21) (v := ?_) (a' := ?_) #[true, true, true, true, true, true, false, false, true, false, false] rfl rfl (by kernel_rfl) (fun _ _ _ h => h) (Or.inl ⟨by rfl, ?_⟩) ?_ ?_
    rotate_left
    ·intro w'
     go_simp
     with_reducible rfl
    rotate_left
    ·simp only [Act.put, lA, lB, lC, aU, aV]
     rfl
    refine aW (i := 6) (N := some 27) (v := ?_) (a' := ?_) #[true, true, true, true, true, true, true, false, true, false, false] rfl rfl (by kernel_rfl) (fun _ _ _ h => h) (Or.inl ⟨by rfl, ?_⟩) ?_ ?_
    rotate_left
    ·intro w'
     go_simp
     with_reducible rfl
    rotate_left
    ·simp only [Act.put, lA, lB, lC, aU, aV]
     rfl
    refine aW (i := 7) (N := some 28) (v := ?_) (a' := ?_) #[true, true, true, true, true, true, true, true, true, false, false] rfl rfl (by kernel_rfl) (fun _ _ _ h => h) (Or.inl ⟨by rfl, ?_⟩) ?_ ?_
    rotate_left
    ·intro w'
     go_simp
     with_reducible rfl
    rotate_left
    ·simp only [Act.put, lA, lB, lC, aU, aV]
     rfl
    exact bJ (by simp only [putAll, Act.put, lA, lB, lC]) (hCont (gb11, lo13, hi13, A5_0, c5_0, A13_0, c13_0) _ ⟨hHeld, BK1, BK2, HB, BK11, ⟨by have o_ := HORD.out; have t_ := HT.out; simp only []; omega⟩, HF13_0, HC13_0⟩)
  ·skip
   refine box_step ?hg (N := 6) ?hd (cs := #[.slice none 0 0]) (t := 32) ?hr ?_
   (case hd => rfl)
   (case hg => rfl)
   (case hr => first | (go_simp; done) | (go_simp; rfl))
   intro gb14 hg_ w14 hbox hb
   have hge_ : (gb2 + 1) ≤ gb14 := (by rw [hg_]; exact HT.out)
   have hlt_ : gb14 + 1 ≤ w14.heap.size := aY hbox
   replace BK1 := aA.mk (aG BK1.out hb)
   replace BK2 := aA.mk (aG BK2.out hb)
   replace HB := aA.mk (aT HB.out hb)
   replace BK14 := aA.mk (hbox)
   replace HORD := aA.mk (And.intro HORD.out (And.intro hge_ (Nat.le_succ gb14)))
   replace HT := aA.mk (hlt_)
   clear hb hbox hg_ hge_ hlt_
   refine hK.out _ _ ⟨(aD BK1.out 0).trans rfl, (aD BK2.out 0).trans rfl, (aD BK2.out 1).trans rfl, (aD BK2.out 2).trans rfl, (aD BK2.out 3).trans rfl, (aD BK2.out 4).trans rfl⟩ (fun hHeld => ?_)
   clear hK K
   refine bJ (a' := ?_) ?_ ?_
   rotate_left
   ·show Act.put _ (some 6) _ = _
    simp only [Act.put, lA, lB, lC, aU, aV]
    rfl
   refine one_ (i := 1) (N := some 23) #[true, true, true, false, false, false, false, false, true, false, false] rfl rfl (by kernel_rfl) (by decide) (fun K hK => ?_)
   refine goes_ Try.func16 (by kernel_rfl) rfl #[.agg #[.slice A0_0 l0_0.length c0_0]] (by rfl) rfl rfl (by (try simp only [List.map_toArray, List.map_cons, List.map_nil]); first | done | rfl) ?_
   (with_reducible refine (laws_toNode.calls k2 _ _ l0_0 r2_0 _ ?s1 ?s2 Q2.out).mono ?_)
   (case s1 => exact (Kd.bN HR0_0.out HB.out))
   (case s2 => exact HC0_0.out)
   rintro e_ w15 ⟨v0_, rfl, ho0, hb⟩
   refine ⟨_, rfl, ?_⟩
   obtain ⟨lo15, hi15, el_, eh_, ol_, oh_⟩ := Mem.times HT.out hb
   (try rw [← el_] at ho0)
   obtain ⟨A15_0, c15_0, ev_, hc0_, hf0_, hs0_⟩ := Mem.new_S ho0 eh_
   subst ev_
   replace BK1 := aA.mk (aG BK1.out hb)
   replace BK2 := aA.mk (aG BK2.out hb)
   replace BK14 := aA.mk (aG BK14.out hb)
   replace HB := aA.mk (aT HB.out hb)
   replace HF15_0 := aA.mk (hf0_)
   replace HC15_0 := aA.mk (hc0_)
   replace HS15_0 := aA.mk (hs0_)
   replace HORD := aA.mk (And.intro HORD.out (And.intro ol_ oh_))
   replace HT := aA.mk (Nat.le_of_eq eh_)
   clear ol_ oh_ el_ eh_ ho0 hf0_ hc0_ hs0_
   (try clear hb)
   refine hK.out _ _ ⟨(aD BK1.out 0).trans rfl, (aD BK2.out 0).trans rfl, (aD BK2.out 1).trans rfl, (aD BK2.out 2).trans rfl, (aD BK2.out 3).trans rfl, (aD BK2.out 4).trans rfl⟩ (fun hHeld => ?_)
   clear hK K
   refine bJ (a' := ?_) ?_ ?_
   rotate_left
   ·show Act.put _ (some 23) _ = _
    simp only [Act.put, lA, lB, lC, aU, aV]
    rfl
   refine one_ (i := 3) (N := some 25) #[true, true, true, true, false, false, false, false, true, false, false] rfl rfl (by kernel_rfl) (by decide) (fun K hK => ?_)
   refine goes_ Try.func36 (by kernel_rfl) rfl #[.agg #[.int .i64 a1_0, .int .i64 a1_1, .int .i64 a1_2, .int .i64 a1_3, .int .i64 a1_4]] (by rfl) rfl rfl (by (try simp only [List.map_toArray, List.map_cons, List.map_nil]); first | done | rfl) ?_
   (with_reducible refine (laws_toKey.calls a1_0 a1_1 a1_2 a1_3 a1_4 r3_1 r3_2 r3_3 r3_4 r3_5 _ Q3.out).mono ?_)
   rintro e_ w16 ⟨rfl, hb⟩
   refine ⟨_, rfl, ?_⟩
   replace HF15_0 := aA.mk (Kd.bH HF15_0.out hb)
   replace HS15_0 := aA.mk (Kd.bM HS15_0.out hb)
   replace BK1 := aA.mk (aG BK1.out hb)
   replace BK2 := aA.mk (aG BK2.out hb)
   replace BK14 := aA.mk (aG BK14.out hb)
   replace HB := aA.mk (aT HB.out hb)
   replace HT := aA.mk (Nat.le_trans HT.out hb.size)
   (try clear hb)
   refine hK.out _ _ ⟨(aD BK1.out 0).trans rfl, (aD BK2.out 0).trans rfl, (aD BK2.out 1).trans rfl, (aD BK2.out 2).trans rfl, (aD BK2.out 3).trans rfl, (aD BK2.out 4).trans rfl⟩ (fun hHeld => ?_)
   clear hK K
   refine bJ (a' := ?_) ?_ ?_
   rotate_left
   ·show Act.put _ (some 25) _ = _
    simp only [Act.put, lA, lB, lC, aU, aV]
    rfl
   refine one_ (i := 4) (N := some 26) #[true, true, true, true, true, false, false, false, true, false, false] rfl rfl (by kernel_rfl) (by decide) (fun K hK => ?_)
   refine goes_ Try.func35 (by kernel_rfl) rfl #[.agg #[.slice A15_0 r2_0.length c15_0], .agg #[.int .i64 r3_1, .int .i64 r3_2, .int .i64 r3_3, .int .i64 r3_4, .int .i64 r3_5]] (by rfl) rfl rfl (by (try simp only [List.map_toArray, List.map_cons, List.map_nil]); first | done | rfl) ?_
   (with_reducible refine (spec_NodePut.calls k4 _ _ r2_0 r3_1 r3_2 r3_3 r3_4 r3_5 r4_1 r4_2 _ ?s1 ?s2 Q4.out).mono ?_)
   (case s1 => exact (Kd.F_now HF15_0.out))
   (case s2 => exact HC15_0.out)
   rintro e_ w17 ⟨v0_, rfl, ho0, hb⟩
   refine ⟨_, rfl, ?_⟩
   obtain ⟨lo17, hi17, el_, eh_, ol_, oh_⟩ := Mem.times HT.out hb
   (try rw [← el_] at ho0)
   obtain ⟨A17_0, c17_0, ev_, hc0_, hf0_⟩ := Mem.new_N (Kd.N_mono (ok' := fun k_ => lo17 ≤ k_) ho0 (fun _ h_ => by first | exact h_ | exact h_.1)) eh_
   subst ev_
   replace BK1 := aA.mk (aG BK1.out hb)
   replace BK2 := aA.mk (aG BK2.out hb)
   replace BK14 := aA.mk (aG BK14.out hb)
   replace HB := aA.mk (aT HB.out hb)
   replace HF17_0 := aA.mk (hf0_)
   replace HC17_0 := aA.mk (hc0_)
   replace HORD := aA.mk (And.intro HORD.out (And.intro ol_ oh_))
   replace HT := aA.mk (Nat.le_of_eq eh_)
   (try clear HF15_0)
   (try clear HS15_0)
   (try clear HC15_0)
   clear ol_ oh_ el_ eh_ ho0 hf0_ hc0_
   (try clear hb)
   refine hK.out _ _ ⟨(aD BK1.out 0).trans rfl, (aD BK2.out 0).trans rfl, (aD BK2.out 1).trans rfl, (aD BK2.out 2).trans rfl, (aD BK2.out 3).trans rfl, (aD BK2.out 4).trans rfl⟩ (fun hHeld => ?_)
   clear hK K
   refine bJ (a' := ?_) ?_ ?_
   rotate_left
   ·show Act.put _ (some 26) _ = _
    simp only [Act.put, lA, lB, lC, aU, aV]
    rfl
   refine aW (i := 5) (N := some 21) (v := ?_) (a' := ?_) #[true, true, true, true, true, true, false, false, true, false, false] rfl rfl (by kernel_rfl) (fun _ _ _ h => h) (Or.inl ⟨by rfl, ?_⟩) ?_ ?_
   rotate_left
   ·intro w'
    go_simp
    with_reducible rfl
   rotate_left
   ·simp only [Act.put, lA, lB, lC, aU, aV]
    rfl
   refine aW (i := 6) (N := some 27) (v := ?_) (a' := ?_) #[true, true, true, true, true, true, true, false, true, false, false] rfl rfl (by kernel_rfl) (fun _ _ _ h => h) (Or.inl ⟨by rfl, ?_⟩) ?_ ?_
   rotate_left
   ·intro w'
    go_simp
    with_reducible rfl
   rotate_left
   ·simp only [Act.put, lA, lB, lC, aU, aV]
    rfl
   refine aW (i := 7) (N := some 28) (v := ?_) (a' := ?_) #[true, true, true, true, true, true, true, true, true, false, false] rfl rfl (by kernel_rfl) (fun _ _ _ h => h) (Or.inl ⟨by rfl, ?_⟩) ?_ ?_
   rotate_left
   ·intro w'
    go_simp
    with_reducible rfl
   rotate_left
   ·simp only [Act.put, lA, lB, lC, aU, aV]
    rfl
   exact bJ (by simp only [putAll, Act.put, lA, lB, lC]) (hCont (gb14, lo17, hi17, A15_0, c15_0, A17_0, c17_0) _ ⟨hHeld, BK1, BK2, HB, BK14, ⟨by have o_ := HORD.out; have t_ := HT.out; simp only []; omega⟩, HF17_0, HC17_0⟩)
 clear BK1 BK2 HB HT hHeld
 rintro ⟨gb18, lo18, hi18, A18_0, c18_0, A18_1, c18_1⟩ w18 ⟨hHeld, BK1, BK2, HB, f_0, f_1, f_2, f_3⟩
 have BK18 := aA.mk (show w18.heap[gb18]? = some (.cells #[.slice none 0 0] 32 (0, 0)) from f_0.out)
 clear f_0
 have HO_ := aA.mk (show ((gb2 + 1) ≤ gb18 ∧ (gb2 + 1) ≤ lo18) ∧ (lo18 ≤ hi18) ∧ (gb18 < lo18 ∨ hi18 ≤ gb18) ∧ gb18 + 1 ≤ w18.heap.size ∧ hi18 ≤ w18.heap.size from f_1.out)
 clear f_1
 have HF18_0 := aA.mk (show Kd.F (Kd.slice 27 k27) w18 (In lo18 hi18) A18_1 r4_1.length r4_1 from f_2.out)
 clear f_2
 have HC18_0 := aA.mk (show r4_1.length ≤ c18_1 from f_3.out)
 clear f_3
 obtain ⟨tp18, et_⟩ : ∃ n_, n_ = w18.heap.size := ⟨_, rfl⟩
 replace HORD := aA.mk (show _ ∧ (((gb2 + 1) ≤ gb18 ∧ (gb2 + 1) ≤ lo18) ∧ (lo18 ≤ hi18) ∧ (gb18 < lo18 ∨ hi18 ≤ gb18) ∧ gb18 + 1 ≤ tp18 ∧ hi18 ≤ tp18) from And.intro HORD.out (by rw [et_]; exact HO_.out))
 clear HO_
 have HT := aA.mk (Nat.le_of_eq et_)
 clear et_
 refine bJ (a' := ?_) ?_ ?_
 rotate_left
 ·simp only [putAll, Act.put, lA, lB, lC]
  rfl
 refine last_ (i := 9) (N := none) #[true, true, true, true, true, true, true, true, true, true, false] rfl rfl (by kernel_rfl) (by decide) (fun K hK => ?_)
 have hzgb1_0_19 := cs1 BK1.out
 have hygb1_0_19 := fs1 BK1.out
 obtain ⟨hzgb2_0_19, hzgb2_1_19, hzgb2_2_19, hzgb2_3_19, hzgb2_4_19⟩ := cs5 BK2.out
 obtain ⟨hygb2_0_19, hygb2_1_19, hygb2_2_19, hygb2_3_19, hygb2_4_19⟩ := fs5 BK2.out
 have hzgb18_0_19 := cs1 BK18.out
 have hygb18_0_19 := fs1 BK18.out
 have hge_ : w.heap.size ≤ gb18 := (by have o_ := HORD.out; omega)
 refine skip_ (w1 := ?_) (by rfl) rfl ?_ ?_
 rotate_left
 ·go_simp
  rfl
 refine hK.out _ _ ?_
 clear hK K
 obtain ⟨w19, hw_⟩ : ∃ z_, z_ = (w18.setCell ⟨gb18, 0, none⟩ (.slice A18_1 r4_1.length c18_1)) := ⟨_, rfl⟩
 (try rw [← hw_])
 have hkp : Kept w18 w19 (fun k_ => k_ = gb18) := (by rw [hw_]; exact Kept.setCell (Kept.refl w18 (fun k_ => k_ = gb18)) (.inl rfl) (.slice A18_1 r4_1.length c18_1))
 have hbn_ : Below w.heap.size w w19 := (by rw [hw_]; exact aC (HB.out) hge_)
 have hbk_ : w19.heap[gb18]? = some (.cells #[.slice A18_1 r4_1.length c18_1] 32 (0, 0)) := (by rw [hw_]; exact bE (cs := #[.slice none 0 0]) (cs' := #[.slice A18_1 r4_1.length c18_1]) (BK18.out) 0 _ rfl)
 have hsz_ : tp18 ≤ w19.heap.size := Nat.le_trans HT.out hkp.1
 replace HF18_0 := aA.mk (Kd.F_kept HF18_0.out hkp (fun k_ h1_ h2_ => by have o_ := HORD.out; unfold In at h1_; omega))
 replace BK1 := aA.mk (blk_kept BK1.out hkp (fun h2_ => by have o_ := HORD.out; omega))
 replace BK2 := aA.mk (blk_kept BK2.out hkp (fun h2_ => by have o_ := HORD.out; omega))
 replace HB := aA.mk (hbn_)
 replace BK18 := aA.mk (hbk_)
 replace HT := aA.mk (hsz_)
 clear hw_ hkp hge_ hbn_ hbk_ hsz_
 refine aW (i := 10) (N := some 7) (v := ?_) (a' := ?_) #[true, true, true, true, true, true, true, true, true, true, true] rfl rfl (by kernel_rfl) (fun _ _ _ h => h) (Or.inl ⟨by rfl, ?_⟩) ?_ ?_
 rotate_left
 ·intro w'
  go_simp
  with_reducible rfl
 rotate_left
 ·simp only [Act.put, lA, lB, lC, aU, aV]
  rfl
 refine done_ (by kernel_rfl) ?_
 have hzgb1_0_19 := cs1 BK1.out
 have hygb1_0_19 := fs1 BK1.out
 obtain ⟨hzgb2_0_19, hzgb2_1_19, hzgb2_2_19, hzgb2_3_19, hzgb2_4_19⟩ := cs5 BK2.out
 obtain ⟨hygb2_0_19, hygb2_1_19, hygb2_2_19, hygb2_3_19, hygb2_4_19⟩ := fs5 BK2.out
 have hzgb18_0_19 := cs1 BK18.out
 have hygb18_0_19 := fs1 BK18.out
 go_wp2_with (first | ((with_reducible refine bD (f := 16) rfl ?_); refine bL (some 30) rfl rfl Try.func16 (by kernel_rfl) rfl #[.agg #[.slice A0_0 l0_0.length c0_0]] rfl (by (try simp only [List.map_toArray, List.map_cons, List.map_nil]); first | done | rfl) ?_; (with_reducible refine (laws_toNode.calls k2 _ _ l0_0 r2_0 _ ?s1 ?s2 Q2.out).mono ?_); (case s1 => exact (Kd.bN HR0_0.out HB.out)); (case s2 => exact HC0_0.out); rintro e_ w20 ⟨v0_, rfl, ho0, hb⟩; refine ⟨_, rfl, ?_⟩; obtain ⟨lo20, hi20, el_, eh_, ol_, oh_⟩ := Mem.times HT.out hb; (try rw [← el_] at ho0); obtain ⟨A20_0, c20_0, ev_, hc0_, hf0_, hs0_⟩ := Mem.new_S ho0 eh_; subst ev_; replace HF18_0 := aA.mk (Kd.bH HF18_0.out hb); replace BK1 := aA.mk (aG BK1.out hb); replace BK2 := aA.mk (aG BK2.out hb); replace BK18 := aA.mk (aG BK18.out hb); replace HB := aA.mk (aT HB.out hb); replace HF20_0 := aA.mk (hf0_); replace HC20_0 := aA.mk (hc0_); replace HS20_0 := aA.mk (hs0_); replace HORD := aA.mk (And.intro HORD.out (And.intro ol_ oh_)); replace HT := aA.mk (Nat.le_of_eq eh_); clear ol_ oh_ el_ eh_ ho0 hf0_ hc0_ hs0_; (try clear hb); have hzgb1_0_20 := cs1 BK1.out; have hygb1_0_20 := fs1 BK1.out; obtain ⟨hzgb2_0_20, hzgb2_1_20, hzgb2_2_20, hzgb2_3_20, hzgb2_4_20⟩ := cs5 BK2.out; obtain ⟨hygb2_0_20, hygb2_1_20, hygb2_2_20, hygb2_3_20, hygb2_4_20⟩ := fs5 BK2.out; have hzgb18_0_20 := cs1 BK18.out; have hygb18_0_20 := fs1 BK18.out) | ((with_reducible refine bA (N := 8) rfl ?_); refine bC ?hg (N := 8) ?hd (cs := #[.slice none 0 0]) (t := 32) ?hr ?_; (case hd => rfl); (case hg => rfl); (case hr => first | (go_simp; done) | (go_simp; rfl)); intro gb21 hg_ w21 hbox hb; have hge_ : hi20 ≤ gb21 := (by rw [hg_]; exact HT.out); have hlt_ : gb21 + 1 ≤ w21.heap.size := aY hbox; replace HF18_0 := aA.mk (Kd.bH HF18_0.out hb); replace HF20_0 := aA.mk (Kd.bH HF20_0.out hb); replace HS20_0 := aA.mk (Kd.bM HS20_0.out hb); replace BK1 := aA.mk (aG BK1.out hb); replace BK2 := aA.mk (aG BK2.out hb); replace BK18 := aA.mk (aG BK18.out hb); replace HB := aA.mk (aT HB.out hb); replace BK21 := aA.mk (hbox); replace HORD := aA.mk (And.intro HORD.out (And.intro hge_ (Nat.le_succ gb21))); replace HT := aA.mk (hlt_); clear hb hbox hg_ hge_ hlt_; have hzgb1_0_21 := cs1 BK1.out; have hygb1_0_21 := fs1 BK1.out; obtain ⟨hzgb2_0_21, hzgb2_1_21, hzgb2_2_21, hzgb2_3_21, hzgb2_4_21⟩ := cs5 BK2.out; obtain ⟨hygb2_0_21, hygb2_1_21, hygb2_2_21, hygb2_3_21, hygb2_4_21⟩ := fs5 BK2.out; have hzgb18_0_21 := cs1 BK18.out; have hygb18_0_21 := fs1 BK18.out; have hzgb21_0_21 := cs1 BK21.out; have hygb21_0_21 := fs1 BK21.out) | ((with_reducible refine gate_store (t := 32) (p := 8) rfl ?_); refine store_event (t := 32) (p := 8) (v := ?vo_w22) (w1 := (w21.setCell ⟨gb21, 0, none⟩ (.slice A20_0 r2_0.length c20_0))) ?hg ?ho ?hn ?hr ?_; (case ho => rfl); (case hg => rfl); (case hn => rfl); (case hr => first | (go_simp; done) | (go_simp; rfl)); intro w22 hw_; have hkp : Kept w21 w22 (fun k_ => k_ = gb21) := (by rw [hw_]; exact Kept.setCell (Kept.refl w21 (fun k_ => k_ = gb21)) (.inl rfl) (.slice A20_0 r2_0.length c20_0)); have hge_ : w.heap.size ≤ gb21 := (by have o_ := HORD.out; (try unfold In at *); (try show _ ≠ _); omega); have hbn_ : Below w.heap.size w w22 := (by rw [hw_]; exact aC (HB.out) hge_); have hbk_ : w22.heap[gb21]? = some (.cells #[.slice A20_0 r2_0.length c20_0] 32 (0, 0)) := (by rw [hw_]; exact bE (cs := #[.slice none 0 0]) (cs' := #[.slice A20_0 r2_0.length c20_0]) (BK21.out) 0 _ rfl); have hsz_ : (gb21 + 1) ≤ w22.heap.size := Nat.le_trans HT.out hkp.1; replace HF18_0 := aA.mk (Kd.F_kept HF18_0.out hkp (fun k_ h1_ h2_ => by have o_ := HORD.out; unfold In at h1_; omega)); replace HF20_0 := aA.mk (Kd.F_kept HF20_0.out hkp (fun k_ h1_ h2_ => by have o_ := HORD.out; unfold In at h1_; omega)); replace HS20_0 := aA.mk (Kd.S_kept HS20_0.out hkp (fun k_ h1_ h2_ => by have o_ := HORD.out; unfold In at h1_; omega)); replace BK1 := aA.mk (blk_kept BK1.out hkp (fun h2_ => by have o_ := HORD.out; omega)); replace BK2 := aA.mk (blk_kept BK2.out hkp (fun h2_ => by have o_ := HORD.out; omega)); replace BK18 := aA.mk (blk_kept BK18.out hkp (fun h2_ => by have o_ := HORD.out; omega)); replace HB := aA.mk (hbn_); replace BK21 := aA.mk (hbk_); replace HT := aA.mk (hsz_); clear hw_ hkp hge_ hbn_ hbk_ hsz_; have hzgb1_0_22 := cs1 BK1.out; have hygb1_0_22 := fs1 BK1.out; obtain ⟨hzgb2_0_22, hzgb2_1_22, hzgb2_2_22, hzgb2_3_22, hzgb2_4_22⟩ := cs5 BK2.out; obtain ⟨hygb2_0_22, hygb2_1_22, hygb2_2_22, hygb2_3_22, hygb2_4_22⟩ := fs5 BK2.out; have hzgb18_0_22 := cs1 BK18.out; have hygb18_0_22 := fs1 BK18.out; have hzgb21_0_22 := cs1 BK21.out; have hygb21_0_22 := fs1 BK21.out))
 have n_ := aA.mk (Kd.F_drew HF18_0.out)
 clear HF18_0
 have HF18_0 := n_
 clear n_
 have n_ := aA.mk (Kd.F_drew HF20_0.out)
 clear HF20_0
 have HF20_0 := n_
 clear n_
 have n_ := aA.mk (Kd.S_drew HS20_0.out)
 clear HS20_0
 have HS20_0 := n_
 clear n_
 have n_ := aA.mk (aJ BK1.out)
 clear BK1
 have BK1 := n_
 clear n_
 have n_ := aA.mk (aJ BK2.out)
 clear BK2
 have BK2 := n_
 clear n_
 have n_ := aA.mk (aJ BK18.out)
 clear BK18
 have BK18 := n_
 clear n_
 have n_ := aA.mk (aJ BK21.out)
 clear BK21
 have BK21 := n_
 clear n_
 have n_ := aA.mk (aH HB.out)
 clear HB
 have HB := n_
 clear n_
 have n_ := aA.mk (show _ ≤ w22.drew.heap.size from HT.out)
 clear HT
 have HT := n_
 clear n_
 refine start_ (n := 10) (S := fun w' => w'.cell? ⟨gb21, 0, none⟩ = some (.slice A20_0 r2_0.length c20_0) ∧ w'.cell? ⟨gb2, 0, none⟩ = some (.int .i64 a1_0) ∧ w'.cell? ⟨gb2, 1, none⟩ = some (.int .i64 a1_1) ∧ w'.cell? ⟨gb2, 2, none⟩ = some (.int .i64 a1_2) ∧ w'.cell? ⟨gb2, 3, none⟩ = some (.int .i64 a1_3) ∧ w'.cell? ⟨gb2, 4, none⟩ = some (.int .i64 a1_4)) (ds := [8]) #[false, false, false, false, false, false, false, false, false, false] (by kernel_rfl) rfl rfl ⟨(aD BK21.out 0).trans rfl, (aD BK2.out 0).trans rfl, (aD BK2.out 1).trans rfl, (aD BK2.out 2).trans rfl, (aD BK2.out 3).trans rfl, (aD BK2.out 4).trans rfl⟩ (fun hHeld => ?_)
 generalize w22.drew = w23 at HF18_0 HF20_0 HS20_0 BK1 BK2 BK18 BK21 HB HT hHeld ⊢
 refine take_ (i := 0) (N := some 32) (v := ?_) (a' := ?_) #[true, false, false, false, false, false, false, false, false, false] rfl rfl (by kernel_rfl) (fun _ _ _ h => h) (Or.inl ⟨by rfl, ?_⟩) hHeld ?_ ?_
 rotate_left
 ·rintro w' ⟨s0, s1, s2, s3, s4, s5⟩
  go_simp
  with_reducible rfl
 rotate_left
 ·simp only [Act.put, lA, lB, lC, aU, aV]
  rfl
 refine take_ (i := 1) (N := some 33) (v := ?_) (a' := ?_) #[true, true, false, false, false, false, false, false, false, false] rfl rfl (by kernel_rfl) (fun _ _ _ h => h) (Or.inl ⟨by rfl, ?_⟩) hHeld ?_ ?_
 rotate_left
 ·rintro w' ⟨s0, s1, s2, s3, s4, s5⟩
  go_simp
  with_reducible rfl
 rotate_left
 ·simp only [Act.put, lA, lB, lC, aU, aV]
  rfl
 refine join_ (σ := Nat × Nat × Nat × Option Addr × Nat) 2 #[true, true, true, true, true, true, true, true, false, false] (fun s_ => [(34, .agg #[.int .i64 r3_1, .int .i64 r3_2, .int .i64 r3_3, .int .i64 r3_4, .int .i64 r3_5]), (35, .tuple #[.agg #[.slice s_.2.2.2.1 r4_1.length s_.2.2.2.2], .bool r4_2]), (31, .tuple #[.agg #[.slice s_.2.2.2.1 r4_1.length s_.2.2.2.2], .bool r4_2]), (36, .agg #[.slice s_.2.2.2.1 r4_1.length s_.2.2.2.2]), (37, .bool r4_2), (9, .pointer (some ⟨s_.1, 0, none⟩))]) (fun s_ w' => (w'.cell? ⟨gb21, 0, none⟩ = some (.slice A20_0 r2_0.length c20_0) ∧ w'.cell? ⟨gb2, 0, none⟩ = some (.int .i64 a1_0) ∧ w'.cell? ⟨gb2, 1, none⟩ = some (.int .i64 a1_1) ∧ w'.cell? ⟨gb2, 2, none⟩ = some (.int .i64 a1_2) ∧ w'.cell? ⟨gb2, 3, none⟩ = some (.int .i64 a1_3) ∧ w'.cell? ⟨gb2, 4, none⟩ = some (.int .i64 a1_4)) ∧ aA (Kd.F (Kd.slice 27 k27) w' (In lo18 hi18) A18_1 r4_1.length r4_1) ∧ aA (Kd.F (Kd.slice 27 k27) w' (In lo20 hi20) A20_0 r2_0.length r2_0) ∧ aA (Kd.S (Kd.slice 27 k27) 40 w' lo20 (In lo20 hi20) (.slice A20_0 r2_0.length c20_0) r2_0) ∧ aA (w'.heap[gb1]? = some (.cells #[.slice A0_0 l0_0.length c0_0] 24 (0, 0))) ∧ aA (w'.heap[gb2]? = some (.cells #[.int .i64 a1_0, .int .i64 a1_1, .int .i64 a1_2, .int .i64 a1_3, .int .i64 a1_4] 50 (0, 0))) ∧ aA (w'.heap[gb18]? = some (.cells #[.slice A18_1 r4_1.length c18_1] 32 (0, 0))) ∧ aA (w'.heap[gb21]? = some (.cells #[.slice A20_0 r2_0.length c20_0] 32 (0, 0))) ∧ aA (Below w.heap.size w w') ∧ aA (w'.heap[s_.1]? = some (.cells #[.slice none 0 0] 32 (0, 0))) ∧ aA (((gb21 + 1) ≤ s_.1 ∧ (gb21 + 1) ≤ s_.2.1) ∧ (s_.2.1 ≤ s_.2.2.1) ∧ (s_.1 < s_.2.1 ∨ s_.2.2.1 ≤ s_.1) ∧ s_.1 + 1 ≤ w'.heap.size ∧ s_.2.2.1 ≤ w'.heap.size) ∧ aA (Kd.F (Kd.slice 27 k27) w' (In s_.2.1 s_.2.2.1) s_.2.2.2.1 r4_1.length r4_1) ∧ aA (r4_1.length ≤ s_.2.2.2.2) ∧ aA (Kd.S (Kd.slice 27 k27) 40 w' w.heap.size (In s_.2.1 s_.2.2.1) (.slice s_.2.2.2.1 r4_1.length s_.2.2.2.2) r4_1)) ?_ ?_
 rotate_left
 ·intro hCont
  refine two_ (i := 2) (j := 7) (Ni := some 34) (Nj := some 9) #[true, true, true, false, false, false, false, false, false, false] #[true, true, false, false, false, false, false, true, false, false] rfl rfl rfl rfl (by kernel_rfl) (by decide) (by decide) (fun K hK => ?_) (fun K hK => ?_)
  ·skip
   refine goes_ Try.func36 (by kernel_rfl) rfl #[.agg #[.int .i64 a1_0, .int .i64 a1_1, .int .i64 a1_2, .int .i64 a1_3, .int .i64 a1_4]] (by rfl) rfl rfl (by (try simp only [List.map_toArray, List.map_cons, List.map_nil]); first | done | rfl) ?_
   (with_reducible refine (laws_toKey.calls a1_0 a1_1 a1_2 a1_3 a1_4 r3_1 r3_2 r3_3 r3_4 r3_5 _ Q3.out).mono ?_)
   rintro e_ w24 ⟨rfl, hb⟩
   refine ⟨_, rfl, ?_⟩
   replace HF18_0 := aA.mk (Kd.bH HF18_0.out hb)
   replace HF20_0 := aA.mk (Kd.bH HF20_0.out hb)
   replace HS20_0 := aA.mk (Kd.bM HS20_0.out hb)
   replace BK1 := aA.mk (aG BK1.out hb)
   replace BK2 := aA.mk (aG BK2.out hb)
   replace BK18 := aA.mk (aG BK18.out hb)
   replace BK21 := aA.mk (aG BK21.out hb)
   replace HB := aA.mk (aT HB.out hb)
   replace HT := aA.mk (Nat.le_trans HT.out hb.size)
   (try clear hb)
   refine hK.out _ _ ⟨(aD BK21.out 0).trans rfl, (aD BK2.out 0).trans rfl, (aD BK2.out 1).trans rfl, (aD BK2.out 2).trans rfl, (aD BK2.out 3).trans rfl, (aD BK2.out 4).trans rfl⟩ (fun hHeld => ?_)
   clear hK K
   refine bJ (a' := ?_) ?_ ?_
   rotate_left
   ·show Act.put _ (some 34) _ = _
    simp only [Act.put, lA, lB, lC, aU, aV]
    rfl
   refine two_ (i := 3) (j := 7) (Ni := some 35) (Nj := some 9) #[true, true, true, true, false, false, false, false, false, false] #[true, true, true, false, false, false, false, true, false, false] rfl rfl rfl rfl (by kernel_rfl) (by decide) (by decide) (fun K hK => ?_) (fun K hK => ?_)
   ·skip
    refine goes_ Try.func37 (by kernel_rfl) rfl #[.agg #[.slice A20_0 r2_0.length c20_0], .agg #[.int .i64 r3_1, .int .i64 r3_2, .int .i64 r3_3, .int .i64 r3_4, .int .i64 r3_5]] (by rfl) rfl rfl (by (try simp only [List.map_toArray, List.map_cons, List.map_nil]); first | done | rfl) ?_
    (with_reducible refine (impl_NodePut.calls k5 _ _ r2_0 r3_1 r3_2 r3_3 r3_4 r3_5 r4_1 r4_2 _ ?s1 ?s2 Q5.out).mono ?_)
    (case s1 => exact (Kd.F_now HF20_0.out))
    (case s2 => exact HC20_0.out)
    rintro e_ w25 ⟨v0_, rfl, ho0, hb⟩
    refine ⟨_, rfl, ?_⟩
    obtain ⟨lo25, hi25, el_, eh_, ol_, oh_⟩ := Mem.times HT.out hb
    (try rw [← el_] at ho0)
    obtain ⟨A25_0, c25_0, ev_, hc0_, hf0_, hs0_⟩ := Mem.new_S ho0 eh_
    subst ev_
    replace HF18_0 := aA.mk (Kd.bH HF18_0.out hb)
    replace HF20_0 := aA.mk (Kd.bH HF20_0.out hb)
    replace HS20_0 := aA.mk (Kd.bM HS20_0.out hb)
    replace BK1 := aA.mk (aG BK1.out hb)
    replace BK2 := aA.mk (aG BK2.out hb)
    replace BK18 := aA.mk (aG BK18.out hb)
    replace BK21 := aA.mk (aG BK21.out hb)
    replace HB := aA.mk (aT HB.out hb)
    replace HF25_0 := aA.mk (hf0_)
    replace HC25_0 := aA.mk (hc0_)
    replace HS25_0 := aA.mk (hs0_)
    replace HORD := aA.mk (And.intro HORD.out (And.intro ol_ oh_))
    replace HT := aA.mk (Nat.le_of_eq eh_)
    clear ol_ oh_ el_ eh_ ho0 hf0_ hc0_ hs0_
    (try clear hb)
    refine hK.out _ _ ⟨(aD BK21.out 0).trans rfl, (aD BK2.out 0).trans rfl, (aD BK2.out 1).trans rfl, (aD BK2.out 2).trans rfl, (aD BK2.out 3).trans rfl, (aD BK2.out 4).trans rfl⟩ (fun hHeld => ?_)
    clear hK K
    refine bJ (a' := ?_) ?_ ?_
    rotate_left
    ·show Act.put _ (some 35) _ = _
     simp only [Act.put, lA, lB, lC, aU, aV]
     rfl
    refine aW (i := 4) (N := some 31) (v := ?_) (a' := ?_) #[true, true, true, true, true, false, false, false, false, false] rfl rfl (by kernel_rfl) (fun _ _ _ h => h) (Or.inl ⟨by rfl, ?_⟩) ?_ ?_
    rotate_left
    ·intro w'
     go_simp
     with_reducible rfl
    rotate_left
    ·simp only [Act.put, lA, lB, lC, aU, aV]
     rfl
    refine aW (i := 5) (N := some 36) (v := ?_) (a' := ?_) #[true, true, true, true, true, true, false, false, false, false] rfl rfl (by kernel_rfl) (fun _ _ _ h => h) (Or.inl ⟨by rfl, ?_⟩) ?_ ?_
    rotate_left
    ·intro w'
     go_simp
     with_reducible rfl
    rotate_left
    ·simp only [Act.put, lA, lB, lC, aU, aV]
     rfl
    refine aW (i := 6) (N := some 37) (v := ?_) (a' := ?_) #[true, true, true, true, true, true, true, false, false, false] rfl rfl (by kernel_rfl) (fun _ _ _ h => h) (Or.inl ⟨by rfl, ?_⟩) ?_ ?_
    rotate_left
    ·intro w'
     go_simp
     with_reducible rfl
    rotate_left
    ·simp only [Act.put, lA, lB, lC, aU, aV]
     rfl
    refine one_ (i := 7) (N := some 9) #[true, true, true, true, true, true, true, true, false, false] rfl rfl (by kernel_rfl) (by decide) (fun K hK => ?_)
    refine box_step ?hg (N := 9) ?hd (cs := #[.slice none 0 0]) (t := 32) ?hr ?_
    (case hd => rfl)
    (case hg => rfl)
    (case hr => first | (go_simp; done) | (go_simp; rfl))
    intro gb26 hg_ w26 hbox hb
    have hge_ : hi25 ≤ gb26 := (by rw [hg_]; exact HT.out)
    have hlt_ : gb26 + 1 ≤ w26.heap.size := aY hbox
    replace HF18_0 := aA.mk (Kd.bH HF18_0.out hb)
    replace HF20_0 := aA.mk (Kd.bH HF20_0.out hb)
    replace HS20_0 := aA.mk (Kd.bM HS20_0.out hb)
    replace HF25_0 := aA.mk (Kd.bH HF25_0.out hb)
    replace HS25_0 := aA.mk (Kd.bM HS25_0.out hb)
    replace BK1 := aA.mk (aG BK1.out hb)
    replace BK2 := aA.mk (aG BK2.out hb)
    replace BK18 := aA.mk (aG BK18.out hb)
    replace BK21 := aA.mk (aG BK21.out hb)
    replace HB := aA.mk (aT HB.out hb)
    replace BK26 := aA.mk (hbox)
    replace HORD := aA.mk (And.intro HORD.out (And.intro hge_ (Nat.le_succ gb26)))
    replace HT := aA.mk (hlt_)
    clear hb hbox hg_ hge_ hlt_
    refine hK.out _ _ ⟨(aD BK21.out 0).trans rfl, (aD BK2.out 0).trans rfl, (aD BK2.out 1).trans rfl, (aD BK2.out 2).trans rfl, (aD BK2.out 3).trans rfl, (aD BK2.out 4).trans rfl⟩ (fun hHeld => ?_)
    clear hK K
    refine bJ (a' := ?_) ?_ ?_
    rotate_left
    ·show Act.put _ (some 9) _ = _
     simp only [Act.put, lA, lB, lC, aU, aV]
     rfl
    exact bJ (by simp only [putAll, Act.put, lA, lB, lC]) (hCont (gb26, lo25, hi25, A25_0, c25_0) _ ⟨hHeld, HF18_0, HF20_0, HS20_0, BK1, BK2, BK18, BK21, HB, BK26, ⟨by have o_ := HORD.out; have t_ := HT.out; simp only []; omega⟩, HF25_0, HC25_0, ⟨Kd.S_lower HS25_0.out (by have o_ := HORD.out; omega)⟩⟩)
   ·skip
    refine box_step ?hg (N := 9) ?hd (cs := #[.slice none 0 0]) (t := 32) ?hr ?_
    (case hd => rfl)
    (case hg => rfl)
    (case hr => first | (go_simp; done) | (go_simp; rfl))
    intro gb27 hg_ w27 hbox hb
    have hge_ : (gb21 + 1) ≤ gb27 := (by rw [hg_]; exact HT.out)
    have hlt_ : gb27 + 1 ≤ w27.heap.size := aY hbox
    replace HF18_0 := aA.mk (Kd.bH HF18_0.out hb)
    replace HF20_0 := aA.mk (Kd.bH HF20_0.out hb)
    replace HS20_0 := aA.mk (Kd.bM HS20_0.out hb)
    replace BK1 := aA.mk (aG BK1.out hb)
    replace BK2 := aA.mk (aG BK2.out hb)
    replace BK18 := aA.mk (aG BK18.out hb)
    replace BK21 := aA.mk (aG BK21.out hb)
    replace HB := aA.mk (aT HB.out hb)
    replace BK27 := aA.mk (hbox)
    replace HORD := aA.mk (And.intro HORD.out (And.intro hge_ (Nat.le_succ gb27)))
    replace HT := aA.mk (hlt_)
    clear hb hbox hg_ hge_ hlt_
    refine hK.out _ _ ⟨(aD BK21.out 0).trans rfl, (aD BK2.out 0).trans rfl, (aD BK2.out 1).trans rfl, (aD BK2.out 2).trans rfl, (aD BK2.out 3).trans rfl, (aD BK2.out 4).trans rfl⟩ (fun hHeld => ?_)
    clear hK K
    refine bJ (a' := ?_) ?_ ?_
    rotate_left
    ·show Act.put _ (some 9) _ = _
     simp only [Act.put, lA, lB, lC, aU, aV]
     rfl
    refine one_ (i := 3) (N := some 35) #[true, true, true, true, false, false, false, true, false, false] rfl rfl (by kernel_rfl) (by decide) (fun K hK => ?_)
    refine goes_ Try.func37 (by kernel_rfl) rfl #[.agg #[.slice A20_0 r2_0.length c20_0], .agg #[.int .i64 r3_1, .int .i64 r3_2, .int .i64 r3_3, .int .i64 r3_4, .int .i64 r3_5]] (by rfl) rfl rfl (by (try simp only [List.map_toArray, List.map_cons, List.map_nil]); first | done | rfl) ?_
    (with_reducible refine (impl_NodePut.calls k5 _ _ r2_0 r3_1 r3_2 r3_3 r3_4 r3_5 r4_1 r4_2 _ ?s1 ?s2 Q5.out).mono ?_)
    (case s1 => exact (Kd.F_now HF20_0.out))
    (case s2 => exact HC20_0.out)
    rintro e_ w28 ⟨v0_, rfl, ho0, hb⟩
    refine ⟨_, rfl, ?_⟩
    obtain ⟨lo28, hi28, el_, eh_, ol_, oh_⟩ := Mem.times HT.out hb
    (try rw [← el_] at ho0)
    obtain ⟨A28_0, c28_0, ev_, hc0_, hf0_, hs0_⟩ := Mem.new_S ho0 eh_
    subst ev_
    replace HF18_0 := aA.mk (Kd.bH HF18_0.out hb)
    replace HF20_0 := aA.mk (Kd.bH HF20_0.out hb)
    replace HS20_0 := aA.mk (Kd.bM HS20_0.out hb)
    replace BK1 := aA.mk (aG BK1.out hb)
    replace BK2 := aA.mk (aG BK2.out hb)
    replace BK18 := aA.mk (aG BK18.out hb)
    replace BK21 := aA.mk (aG BK21.out hb)
    replace BK27 := aA.mk (aG BK27.out hb)
    replace HB := aA.mk (aT HB.out hb)
    replace HF28_0 := aA.mk (hf0_)
    replace HC28_0 := aA.mk (hc0_)
    replace HS28_0 := aA.mk (hs0_)
    replace HORD := aA.mk (And.intro HORD.out (And.intro ol_ oh_))
    replace HT := aA.mk (Nat.le_of_eq eh_)
    clear ol_ oh_ el_ eh_ ho0 hf0_ hc0_ hs0_
    (try clear hb)
    refine hK.out _ _ ⟨(aD BK21.out 0).trans rfl, (aD BK2.out 0).trans rfl, (aD BK2.out 1).trans rfl, (aD BK2.out 2).trans rfl, (aD BK2.out 3).trans rfl, (aD BK2.out 4).trans rfl⟩ (fun hHeld => ?_)
    clear hK K
    refine bJ (a' := ?_) ?_ ?_
    rotate_left
    ·show Act.put _ (some 35) _ = _
     simp only [Act.put, lA, lB, lC, aU, aV]
     rfl
    refine aW (i := 4) (N := some 31) (v := ?_) (a' := ?_) #[true, true, true, true, true, false, false, true, false, false] rfl rfl (by kernel_rfl) (fun _ _ _ h => h) (Or.inl ⟨by rfl, ?_⟩) ?_ ?_
    rotate_left
    ·intro w'
     go_simp
     with_reducible rfl
    rotate_left
    ·simp only [Act.put, lA, lB, lC, aU, aV]
     rfl
    refine aW (i := 5) (N := some 36) (v := ?_) (a' := ?_) #[true, true, true, true, true, true, false, true, false, false] rfl rfl (by kernel_rfl) (fun _ _ _ h => h) (Or.inl ⟨by rfl, ?_⟩) ?_ ?_
    rotate_left
    ·intro w'
     go_simp
     with_reducible rfl
    rotate_left
    ·simp only [Act.put, lA, lB, lC, aU, aV]
     rfl
    refine aW (i := 6) (N := some 37) (v := ?_) (a' := ?_) #[true, true, true, true, true, true, true, true, false, false] rfl rfl (by kernel_rfl) (fun _ _ _ h => h) (Or.inl ⟨by rfl, ?_⟩) ?_ ?_
    rotate_left
    ·intro w'
     go_simp
     with_reducible rfl
    rotate_left
    ·simp only [Act.put, lA, lB, lC, aU, aV]
     rfl
    exact bJ (by simp only [putAll, Act.put, lA, lB, lC]) (hCont (gb27, lo28, hi28, A28_0, c28_0) _ ⟨hHeld, HF18_0, HF20_0, HS20_0, BK1, BK2, BK18, BK21, HB, BK27, ⟨by have o_ := HORD.out; have t_ := HT.out; simp only []; omega⟩, HF28_0, HC28_0, ⟨Kd.S_lower HS28_0.out (by have o_ := HORD.out; omega)⟩⟩)
  ·skip
   refine box_step ?hg (N := 9) ?hd (cs := #[.slice none 0 0]) (t := 32) ?hr ?_
   (case hd => rfl)
   (case hg => rfl)
   (case hr => first | (go_simp; done) | (go_simp; rfl))
   intro gb29 hg_ w29 hbox hb
   have hge_ : (gb21 + 1) ≤ gb29 := (by rw [hg_]; exact HT.out)
   have hlt_ : gb29 + 1 ≤ w29.heap.size := aY hbox
   replace HF18_0 := aA.mk (Kd.bH HF18_0.out hb)
   replace HF20_0 := aA.mk (Kd.bH HF20_0.out hb)
   replace HS20_0 := aA.mk (Kd.bM HS20_0.out hb)
   replace BK1 := aA.mk (aG BK1.out hb)
   replace BK2 := aA.mk (aG BK2.out hb)
   replace BK18 := aA.mk (aG BK18.out hb)
   replace BK21 := aA.mk (aG BK21.out hb)
   replace HB := aA.mk (aT HB.out hb)
   replace BK29 := aA.mk (hbox)
   replace HORD := aA.mk (And.intro HORD.out (And.intro hge_ (Nat.le_succ gb29)))
   replace HT := aA.mk (hlt_)
   clear hb hbox hg_ hge_ hlt_
   refine hK.out _ _ ⟨(aD BK21.out 0).trans rfl, (aD BK2.out 0).trans rfl, (aD BK2.out 1).trans rfl, (aD BK2.out 2).trans rfl, (aD BK2.out 3).trans rfl, (aD BK2.out 4).trans rfl⟩ (fun hHeld => ?_)
   clear hK K
   refine bJ (a' := ?_) ?_ ?_
   rotate_left
   ·show Act.put _ (some 9) _ = _
    simp only [Act.put, lA, lB, lC, aU, aV]
    rfl
   refine one_ (i := 2) (N := some 34) #[true, true, true, false, false, false, false, true, false, false] rfl rfl (by kernel_rfl) (by decide) (fun K hK => ?_)
   refine goes_ Try.func36 (by kernel_rfl) rfl #[.agg #[.int .i64 a1_0, .int .i64 a1_1, .int .i64 a1_2, .int .i64 a1_3, .int .i64 a1_4]] (by rfl) rfl rfl (by (try simp only [List.map_toArray, List.map_cons, List.map_nil]); first | done | rfl) ?_
   (with_reducible refine (laws_toKey.calls a1_0 a1_1 a1_2 a1_3 a1_4 r3_1 r3_2 r3_3 r3_4 r3_5 _ Q3.out).mono ?_)
   rintro e_ w30 ⟨rfl, hb⟩
   refine ⟨_, rfl, ?_⟩
   replace HF18_0 := aA.mk (Kd.bH HF18_0.out hb)
   replace HF20_0 := aA.mk (Kd.bH HF20_0.out hb)
   replace HS20_0 := aA.mk (Kd.bM HS20_0.out hb)
   replace BK1 := aA.mk (aG BK1.out hb)
   replace BK2 := aA.mk (aG BK2.out hb)
   replace BK18 := aA.mk (aG BK18.out hb)
   replace BK21 := aA.mk (aG BK21.out hb)
   replace BK29 := aA.mk (aG BK29.out hb)
   replace HB := aA.mk (aT HB.out hb)
   replace HT := aA.mk (Nat.le_trans HT.out hb.size)
   (try clear hb)
   refine hK.out _ _ ⟨(aD BK21.out 0).trans rfl, (aD BK2.out 0).trans rfl, (aD BK2.out 1).trans rfl, (aD BK2.out 2).trans rfl, (aD BK2.out 3).trans rfl, (aD BK2.out 4).trans rfl⟩ (fun hHeld => ?_)
   clear hK K
   refine bJ (a' := ?_) ?_ ?_
   rotate_left
   ·show Act.put _ (some 34) _ = _
    simp only [Act.put, lA, lB, lC, aU, aV]
    rfl
   refine one_ (i := 3) (N := some 35) #[true, true, true, true, false, false, false, true, false, false] rfl rfl (by kernel_rfl) (by decide) (fun K hK => ?_)
   refine goes_ Try.func37 (by kernel_rfl) rfl #[.agg #[.slice A20_0 r2_0.length c20_0], .agg #[.int .i64 r3_1, .int .i64 r3_2, .int .i64 r3_3, .int .i64 r3_4, .int .i64 r3_5]] (by rfl) rfl rfl (by (try simp only [List.map_toArray, List.map_cons, List.map_nil]); first | done | rfl) ?_
   (with_reducible refine (impl_NodePut.calls k5 _ _ r2_0 r3_1 r3_2 r3_3 r3_4 r3_5 r4_1 r4_2 _ ?s1 ?s2 Q5.out).mono ?_)
   (case s1 => exact (Kd.F_now HF20_0.out))
   (case s2 => exact HC20_0.out)
   rintro e_ w31 ⟨v0_, rfl, ho0, hb⟩
   refine ⟨_, rfl, ?_⟩
   obtain ⟨lo31, hi31, el_, eh_, ol_, oh_⟩ := Mem.times HT.out hb
   (try rw [← el_] at ho0)
   obtain ⟨A31_0, c31_0, ev_, hc0_, hf0_, hs0_⟩ := Mem.new_S ho0 eh_
   subst ev_
   replace HF18_0 := aA.mk (Kd.bH HF18_0.out hb)
   replace HF20_0 := aA.mk (Kd.bH HF20_0.out hb)
   replace HS20_0 := aA.mk (Kd.bM HS20_0.out hb)
   replace BK1 := aA.mk (aG BK1.out hb)
   replace BK2 := aA.mk (aG BK2.out hb)
   replace BK18 := aA.mk (aG BK18.out hb)
   replace BK21 := aA.mk (aG BK21.out hb)
   replace BK29 := aA.mk (aG BK29.out hb)
   replace HB := aA.mk (aT HB.out hb)
   replace HF31_0 := aA.mk (hf0_)
   replace HC31_0 := aA.mk (hc0_)
   replace HS31_0 := aA.mk (hs0_)
   replace HORD := aA.mk (And.intro HORD.out (And.intro ol_ oh_))
   replace HT := aA.mk (Nat.le_of_eq eh_)
   clear ol_ oh_ el_ eh_ ho0 hf0_ hc0_ hs0_
   (try clear hb)
   refine hK.out _ _ ⟨(aD BK21.out 0).trans rfl, (aD BK2.out 0).trans rfl, (aD BK2.out 1).trans rfl, (aD BK2.out 2).trans rfl, (aD BK2.out 3).trans rfl, (aD BK2.out 4).trans rfl⟩ (fun hHeld => ?_)
   clear hK K
   refine bJ (a' := ?_) ?_ ?_
   rotate_left
   ·show Act.put _ (some 35) _ = _
    simp only [Act.put, lA, lB, lC, aU, aV]
    rfl
   refine aW (i := 4) (N := some 31) (v := ?_) (a' := ?_) #[true, true, true, true, true, false, false, true, false, false] rfl rfl (by kernel_rfl) (fun _ _ _ h => h) (Or.inl ⟨by rfl, ?_⟩) ?_ ?_
   rotate_left
   ·intro w'
    go_simp
    with_reducible rfl
   rotate_left
   ·simp only [Act.put, lA, lB, lC, aU, aV]
    rfl
   refine aW (i := 5) (N := some 36) (v := ?_) (a' := ?_) #[true, true, true, true, true, true, false, true, false, false] rfl rfl (by kernel_rfl) (fun _ _ _ h => h) (Or.inl ⟨by rfl, ?_⟩) ?_ ?_
   rotate_left
   ·intro w'
    go_simp
    with_reducible rfl
   rotate_left
   ·simp only [Act.put, lA, lB, lC, aU, aV]
    rfl
   refine aW (i := 6) (N := some 37) (v := ?_) (a' := ?_) #[true, true, true, true, true, true, true, true, false, false] rfl rfl (by kernel_rfl) (fun _ _ _ h => h) (Or.inl ⟨by rfl, ?_⟩) ?_ ?_
   rotate_left
   ·intro w'
    go_simp
    with_reducible rfl
   rotate_left
   ·simp only [Act.put, lA, lB, lC, aU, aV]
    rfl
   exact bJ (by simp only [putAll, Act.put, lA, lB, lC]) (hCont (gb29, lo31, hi31, A31_0, c31_0) _ ⟨hHeld, HF18_0, HF20_0, HS20_0, BK1, BK2, BK18, BK21, HB, BK29, ⟨by have o_ := HORD.out; have t_ := HT.out; simp only []; omega⟩, HF31_0, HC31_0, ⟨Kd.S_lower HS31_0.out (by have o_ := HORD.out; omega)⟩⟩)
 clear HF18_0 HF20_0 HS20_0 BK1 BK2 BK18 BK21 HB HT hHeld
 rintro ⟨gb32, lo32, hi32, A32_0, c32_0⟩ w32 ⟨hHeld, HF18_0, HF20_0, HS20_0, BK1, BK2, BK18, BK21, HB, f_0, f_1, f_2, f_3, f_4⟩
 have BK32 := aA.mk (show w32.heap[gb32]? = some (.cells #[.slice none 0 0] 32 (0, 0)) from f_0.out)
 clear f_0
 have HO_ := aA.mk (show ((gb21 + 1) ≤ gb32 ∧ (gb21 + 1) ≤ lo32) ∧ (lo32 ≤ hi32) ∧ (gb32 < lo32 ∨ hi32 ≤ gb32) ∧ gb32 + 1 ≤ w32.heap.size ∧ hi32 ≤ w32.heap.size from f_1.out)
 clear f_1
 have HF32_0 := aA.mk (show Kd.F (Kd.slice 27 k27) w32 (In lo32 hi32) A32_0 r4_1.length r4_1 from f_2.out)
 clear f_2
 have HC32_0 := aA.mk (show r4_1.length ≤ c32_0 from f_3.out)
 clear f_3
 have HS32_0 := aA.mk (show Kd.S (Kd.slice 27 k27) 40 w32 w.heap.size (In lo32 hi32) (.slice A32_0 r4_1.length c32_0) r4_1 from f_4.out)
 clear f_4
 obtain ⟨tp32, et_⟩ : ∃ n_, n_ = w32.heap.size := ⟨_, rfl⟩
 replace HORD := aA.mk (show _ ∧ (((gb21 + 1) ≤ gb32 ∧ (gb21 + 1) ≤ lo32) ∧ (lo32 ≤ hi32) ∧ (gb32 < lo32 ∨ hi32 ≤ gb32) ∧ gb32 + 1 ≤ tp32 ∧ hi32 ≤ tp32) from And.intro HORD.out (by rw [et_]; exact HO_.out))
 clear HO_
 have HT := aA.mk (Nat.le_of_eq et_)
 clear et_
 refine bJ (a' := ?_) ?_ ?_
 rotate_left
 ·simp only [putAll, Act.put, lA, lB, lC]
  rfl
 refine last_ (i := 8) (N := none) #[true, true, true, true, true, true, true, true, true, false] rfl rfl (by kernel_rfl) (by decide) (fun K hK => ?_)
 have hzgb1_0_33 := cs1 BK1.out
 have hygb1_0_33 := fs1 BK1.out
 obtain ⟨hzgb2_0_33, hzgb2_1_33, hzgb2_2_33, hzgb2_3_33, hzgb2_4_33⟩ := cs5 BK2.out
 obtain ⟨hygb2_0_33, hygb2_1_33, hygb2_2_33, hygb2_3_33, hygb2_4_33⟩ := fs5 BK2.out
 have hzgb18_0_33 := cs1 BK18.out
 have hygb18_0_33 := fs1 BK18.out
 have hzgb21_0_33 := cs1 BK21.out
 have hygb21_0_33 := fs1 BK21.out
 have hzgb32_0_33 := cs1 BK32.out
 have hygb32_0_33 := fs1 BK32.out
 have hge_ : w.heap.size ≤ gb32 := (by have o_ := HORD.out; omega)
 refine skip_ (w1 := ?_) (by rfl) rfl ?_ ?_
 rotate_left
 ·go_simp
  rfl
 refine hK.out _ _ ?_
 clear hK K
 obtain ⟨w33, hw_⟩ : ∃ z_, z_ = (w32.setCell ⟨gb32, 0, none⟩ (.slice A32_0 r4_1.length c32_0)) := ⟨_, rfl⟩
 (try rw [← hw_])
 have hkp : Kept w32 w33 (fun k_ => k_ = gb32) := (by rw [hw_]; exact Kept.setCell (Kept.refl w32 (fun k_ => k_ = gb32)) (.inl rfl) (.slice A32_0 r4_1.length c32_0))
 have hbn_ : Below w.heap.size w w33 := (by rw [hw_]; exact aC (HB.out) hge_)
 have hbk_ : w33.heap[gb32]? = some (.cells #[.slice A32_0 r4_1.length c32_0] 32 (0, 0)) := (by rw [hw_]; exact bE (cs := #[.slice none 0 0]) (cs' := #[.slice A32_0 r4_1.length c32_0]) (BK32.out) 0 _ rfl)
 have hsz_ : tp32 ≤ w33.heap.size := Nat.le_trans HT.out hkp.1
 replace HF18_0 := aA.mk (Kd.F_kept HF18_0.out hkp (fun k_ h1_ h2_ => by have o_ := HORD.out; unfold In at h1_; omega))
 replace HF20_0 := aA.mk (Kd.F_kept HF20_0.out hkp (fun k_ h1_ h2_ => by have o_ := HORD.out; unfold In at h1_; omega))
 replace HS20_0 := aA.mk (Kd.S_kept HS20_0.out hkp (fun k_ h1_ h2_ => by have o_ := HORD.out; unfold In at h1_; omega))
 replace HF32_0 := aA.mk (Kd.F_kept HF32_0.out hkp (fun k_ h1_ h2_ => by have o_ := HORD.out; unfold In at h1_; omega))
 replace HS32_0 := aA.mk (Kd.S_kept HS32_0.out hkp (fun k_ h1_ h2_ => by have o_ := HORD.out; unfold In at h1_; omega))
 replace BK1 := aA.mk (blk_kept BK1.out hkp (fun h2_ => by have o_ := HORD.out; omega))
 replace BK2 := aA.mk (blk_kept BK2.out hkp (fun h2_ => by have o_ := HORD.out; omega))
 replace BK18 := aA.mk (blk_kept BK18.out hkp (fun h2_ => by have o_ := HORD.out; omega))
 replace BK21 := aA.mk (blk_kept BK21.out hkp (fun h2_ => by have o_ := HORD.out; omega))
 replace HB := aA.mk (hbn_)
 replace BK32 := aA.mk (hbk_)
 replace HT := aA.mk (hsz_)
 clear hw_ hkp hge_ hbn_ hbk_ hsz_
 refine aW (i := 9) (N := some 10) (v := ?_) (a' := ?_) #[true, true, true, true, true, true, true, true, true, true] rfl rfl (by kernel_rfl) (fun _ _ _ h => h) (Or.inl ⟨by rfl, ?_⟩) ?_ ?_
 rotate_left
 ·intro w'
  go_simp
  with_reducible rfl
 rotate_left
 ·simp only [Act.put, lA, lB, lC, aU, aV]
  rfl
 refine done_ (by kernel_rfl) ?_
 have hzgb1_0_33 := cs1 BK1.out
 have hygb1_0_33 := fs1 BK1.out
 obtain ⟨hzgb2_0_33, hzgb2_1_33, hzgb2_2_33, hzgb2_3_33, hzgb2_4_33⟩ := cs5 BK2.out
 obtain ⟨hygb2_0_33, hygb2_1_33, hygb2_2_33, hygb2_3_33, hygb2_4_33⟩ := fs5 BK2.out
 have hzgb18_0_33 := cs1 BK18.out
 have hygb18_0_33 := fs1 BK18.out
 have hzgb21_0_33 := cs1 BK21.out
 have hygb21_0_33 := fs1 BK21.out
 have hzgb32_0_33 := cs1 BK32.out
 have hygb32_0_33 := fs1 BK32.out
 go_wp2_with (first | ((with_reducible refine bD (f := 19) rfl ?_); refine bL (some 40) rfl rfl Try.func19 (by kernel_rfl) rfl #[.agg #[.slice A32_0 r4_1.length c32_0], .agg #[.slice A18_1 r4_1.length c18_1]] rfl (by (try simp only [List.map_toArray, List.map_cons, List.map_nil]); first | done | rfl) ?_; (with_reducible refine (laws_eqNode.calls k6 _ _ r4_1 _ _ r4_1 true _ ?s1 ?s2 ?s3 ?s4 Q6.out).mono ?_); (case s1 => exact (Kd.F_now HF32_0.out)); (case s2 => exact HC32_0.out); (case s3 => exact (Kd.F_now HF18_0.out)); (case s4 => exact HC18_0.out); rintro e_ w34 ⟨rfl, hb⟩; refine ⟨_, rfl, ?_⟩; replace HF18_0 := aA.mk (Kd.bH HF18_0.out hb); replace HF20_0 := aA.mk (Kd.bH HF20_0.out hb); replace HS20_0 := aA.mk (Kd.bM HS20_0.out hb); replace HF32_0 := aA.mk (Kd.bH HF32_0.out hb); replace HS32_0 := aA.mk (Kd.bM HS32_0.out hb); replace BK1 := aA.mk (aG BK1.out hb); replace BK2 := aA.mk (aG BK2.out hb); replace BK18 := aA.mk (aG BK18.out hb); replace BK21 := aA.mk (aG BK21.out hb); replace BK32 := aA.mk (aG BK32.out hb); replace HB := aA.mk (aT HB.out hb); replace HT := aA.mk (Nat.le_trans HT.out hb.size); (try clear hb); have hzgb1_0_34 := cs1 BK1.out; have hygb1_0_34 := fs1 BK1.out; obtain ⟨hzgb2_0_34, hzgb2_1_34, hzgb2_2_34, hzgb2_3_34, hzgb2_4_34⟩ := cs5 BK2.out; obtain ⟨hygb2_0_34, hygb2_1_34, hygb2_2_34, hygb2_3_34, hygb2_4_34⟩ := fs5 BK2.out; have hzgb18_0_34 := cs1 BK18.out; have hygb18_0_34 := fs1 BK18.out; have hzgb21_0_34 := cs1 BK21.out; have hygb21_0_34 := fs1 BK21.out; have hzgb32_0_34 := cs1 BK32.out; have hygb32_0_34 := fs1 BK32.out))
 have n_ := aA.mk (Kd.F_drew HF18_0.out)
 clear HF18_0
 have HF18_0 := n_
 clear n_
 have n_ := aA.mk (Kd.F_drew HF20_0.out)
 clear HF20_0
 have HF20_0 := n_
 clear n_
 have n_ := aA.mk (Kd.S_drew HS20_0.out)
 clear HS20_0
 have HS20_0 := n_
 clear n_
 have n_ := aA.mk (Kd.F_drew HF32_0.out)
 clear HF32_0
 have HF32_0 := n_
 clear n_
 have n_ := aA.mk (Kd.S_drew HS32_0.out)
 clear HS32_0
 have HS32_0 := n_
 clear n_
 have n_ := aA.mk (aJ BK1.out)
 clear BK1
 have BK1 := n_
 clear n_
 have n_ := aA.mk (aJ BK2.out)
 clear BK2
 have BK2 := n_
 clear n_
 have n_ := aA.mk (aJ BK18.out)
 clear BK18
 have BK18 := n_
 clear n_
 have n_ := aA.mk (aJ BK21.out)
 clear BK21
 have BK21 := n_
 clear n_
 have n_ := aA.mk (aJ BK32.out)
 clear BK32
 have BK32 := n_
 clear n_
 have n_ := aA.mk (aH HB.out)
 clear HB
 have HB := n_
 clear n_
 have n_ := aA.mk (show _ ≤ w34.drew.heap.size from HT.out)
 clear HT
 have HT := n_
 clear n_
 refine start_ (n := 5) (S := fun w' => w'.cell? ⟨gb21, 0, none⟩ = some (.slice A20_0 r2_0.length c20_0) ∧ w'.cell? ⟨gb1, 0, none⟩ = some (.slice A0_0 l0_0.length c0_0)) (ds := []) #[false, false, false, false, false] (by kernel_rfl) rfl rfl ⟨(aD BK21.out 0).trans rfl, (aD BK1.out 0).trans rfl⟩ (fun hHeld => ?_)
 generalize w34.drew = w35 at HF18_0 HF20_0 HS20_0 HF32_0 HS32_0 BK1 BK2 BK18 BK21 BK32 HB HT hHeld ⊢
 refine take_ (i := 0) (N := some 47) (v := ?_) (a' := ?_) #[true, false, false, false, false] rfl rfl (by kernel_rfl) (fun _ _ _ h => h) (Or.inl ⟨by rfl, ?_⟩) hHeld ?_ ?_
 rotate_left
 ·rintro w' ⟨s0, s1⟩
  go_simp
  with_reducible rfl
 rotate_left
 ·simp only [Act.put, lA, lB, lC, aU, aV]
  rfl
 refine take_ (i := 1) (N := some 48) (v := ?_) (a' := ?_) #[true, true, false, false, false] rfl rfl (by kernel_rfl) (fun _ _ _ h => h) (Or.inl ⟨by rfl, ?_⟩) hHeld ?_ ?_
 rotate_left
 ·rintro w' ⟨s0, s1⟩
  go_simp
  with_reducible rfl
 rotate_left
 ·simp only [Act.put, lA, lB, lC, aU, aV]
  rfl
 refine one_ (i := 2) (N := some 49) #[true, true, true, false, false] rfl rfl (by kernel_rfl) (by decide) (fun K hK => ?_)
 refine goes_ Try.func16 (by kernel_rfl) rfl #[.agg #[.slice A0_0 l0_0.length c0_0]] (by rfl) rfl rfl (by (try simp only [List.map_toArray, List.map_cons, List.map_nil]); first | done | rfl) ?_
 (with_reducible refine (laws_toNode.calls k2 _ _ l0_0 r2_0 _ ?s1 ?s2 Q2.out).mono ?_)
 (case s1 => exact (Kd.bN HR0_0.out HB.out))
 (case s2 => exact HC0_0.out)
 rintro e_ w36 ⟨v0_, rfl, ho0, hb⟩
 refine ⟨_, rfl, ?_⟩
 obtain ⟨lo36, hi36, el_, eh_, ol_, oh_⟩ := Mem.times HT.out hb
 (try rw [← el_] at ho0)
 obtain ⟨A36_0, c36_0, ev_, hc0_, hf0_, hs0_⟩ := Mem.new_S ho0 eh_
 subst ev_
 replace HF18_0 := aA.mk (Kd.bH HF18_0.out hb)
 replace HF20_0 := aA.mk (Kd.bH HF20_0.out hb)
 replace HS20_0 := aA.mk (Kd.bM HS20_0.out hb)
 replace HF32_0 := aA.mk (Kd.bH HF32_0.out hb)
 replace HS32_0 := aA.mk (Kd.bM HS32_0.out hb)
 replace BK1 := aA.mk (aG BK1.out hb)
 replace BK2 := aA.mk (aG BK2.out hb)
 replace BK18 := aA.mk (aG BK18.out hb)
 replace BK21 := aA.mk (aG BK21.out hb)
 replace BK32 := aA.mk (aG BK32.out hb)
 replace HB := aA.mk (aT HB.out hb)
 replace HF36_0 := aA.mk (hf0_)
 replace HC36_0 := aA.mk (hc0_)
 replace HS36_0 := aA.mk (hs0_)
 replace HORD := aA.mk (And.intro HORD.out (And.intro ol_ oh_))
 replace HT := aA.mk (Nat.le_of_eq eh_)
 clear ol_ oh_ el_ eh_ ho0 hf0_ hc0_ hs0_
 (try clear hb)
 refine hK.out _ _ ⟨(aD BK21.out 0).trans rfl, (aD BK1.out 0).trans rfl⟩ (fun hHeld => ?_)
 clear hK K
 refine bJ (a' := ?_) ?_ ?_
 rotate_left
 ·show Act.put _ (some 49) _ = _
  simp only [Act.put, lA, lB, lC, aU, aV]
  rfl
 refine one_ (i := 3) (N := some 50) #[true, true, true, true, false] rfl rfl (by kernel_rfl) (by decide) (fun K hK => ?_)
 refine goes_ Try.func19 (by kernel_rfl) rfl #[.agg #[.slice A20_0 r2_0.length c20_0], .agg #[.slice A36_0 r2_0.length c36_0]] (by rfl) rfl rfl (by (try simp only [List.map_toArray, List.map_cons, List.map_nil]); first | done | rfl) ?_
 (with_reducible refine (laws_eqNode.calls k7 _ _ r2_0 _ _ r2_0 true _ ?s1 ?s2 ?s3 ?s4 Q7.out).mono ?_)
 (case s1 => exact (Kd.F_now HF20_0.out))
 (case s2 => exact HC20_0.out)
 (case s3 => exact (Kd.F_now HF36_0.out))
 (case s4 => exact HC36_0.out)
 rintro e_ w37 ⟨rfl, hb⟩
 refine ⟨_, rfl, ?_⟩
 replace HF18_0 := aA.mk (Kd.bH HF18_0.out hb)
 replace HF20_0 := aA.mk (Kd.bH HF20_0.out hb)
 replace HS20_0 := aA.mk (Kd.bM HS20_0.out hb)
 replace HF32_0 := aA.mk (Kd.bH HF32_0.out hb)
 replace HS32_0 := aA.mk (Kd.bM HS32_0.out hb)
 replace BK1 := aA.mk (aG BK1.out hb)
 replace BK2 := aA.mk (aG BK2.out hb)
 replace BK18 := aA.mk (aG BK18.out hb)
 replace BK21 := aA.mk (aG BK21.out hb)
 replace BK32 := aA.mk (aG BK32.out hb)
 replace HB := aA.mk (aT HB.out hb)
 replace HT := aA.mk (Nat.le_trans HT.out hb.size)
 (try clear HF36_0)
 (try clear HS36_0)
 (try clear HC36_0)
 (try clear hb)
 refine hK.out _ _ ⟨(aD BK21.out 0).trans rfl, (aD BK1.out 0).trans rfl⟩ (fun hHeld => ?_)
 clear hK K
 refine bJ (a' := ?_) ?_ ?_
 rotate_left
 ·show Act.put _ (some 50) _ = _
  simp only [Act.put, lA, lB, lC, aU, aV]
  rfl
 refine aW (i := 4) (N := some 51) (v := ?_) (a' := ?_) #[true, true, true, true, true] rfl rfl (by kernel_rfl) (fun _ _ _ h => h) (Or.inl ⟨by rfl, ?_⟩) ?_ ?_
 rotate_left
 ·intro w'
  go_simp
  with_reducible rfl
 rotate_left
 ·simp only [Act.put, lA, lB, lC, aU, aV]
  rfl
 refine done_ (by kernel_rfl) ?_
 have hzgb1_0_37 := cs1 BK1.out
 have hygb1_0_37 := fs1 BK1.out
 obtain ⟨hzgb2_0_37, hzgb2_1_37, hzgb2_2_37, hzgb2_3_37, hzgb2_4_37⟩ := cs5 BK2.out
 obtain ⟨hygb2_0_37, hygb2_1_37, hygb2_2_37, hygb2_3_37, hygb2_4_37⟩ := fs5 BK2.out
 have hzgb18_0_37 := cs1 BK18.out
 have hygb18_0_37 := fs1 BK18.out
 have hzgb21_0_37 := cs1 BK21.out
 have hygb21_0_37 := fs1 BK21.out
 have hzgb32_0_37 := cs1 BK32.out
 have hygb32_0_37 := fs1 BK32.out
 go_wp2_with (first | ((with_reducible refine bD (f := 26) rfl ?_); refine bL (some 54) rfl rfl Try.func26 (by kernel_rfl) rfl #[.agg #[.slice A20_0 r2_0.length c20_0], .int .i64 1] rfl (by (try simp only [List.map_toArray, List.map_cons, List.map_nil]); first | done | rfl) ?_; (with_reducible refine (laws_markNode.calls (In lo20 hi20) (.slice A20_0 r2_0.length c20_0) r2_0 1 r8_1 r8_2 w _ ?s1 ?s2 Q8.out).mono ?_); (case s1 => exact HB.out); (case s2 => exact Kd.S_lower HS20_0.out (by have o_ := HORD.out; omega)); rintro e_ w38 ⟨rfl, ho0, hbn_, hkp⟩; refine ⟨_, rfl, ?_⟩; have hkq : Kept w37 w38 (In lo20 hi20) := Kept.mono hkp (fun k_ h_ => by first | exact h_ | (have o_ := HORD.out; (try unfold In at *); omega)); replace HF18_0 := aA.mk (Kd.F_kept HF18_0.out hkq (fun k_ h1_ h2_ => by have o_ := HORD.out; unfold In at h1_ h2_; omega)); replace HF32_0 := aA.mk (Kd.F_kept HF32_0.out hkq (fun k_ h1_ h2_ => by have o_ := HORD.out; unfold In at h1_ h2_; omega)); replace HS32_0 := aA.mk (Kd.S_kept HS32_0.out hkq (fun k_ h1_ h2_ => by have o_ := HORD.out; unfold In at h1_ h2_; omega)); replace BK1 := aA.mk (blk_kept BK1.out hkq (fun h2_ => by have o_ := HORD.out; unfold In at h2_; omega)); replace BK2 := aA.mk (blk_kept BK2.out hkq (fun h2_ => by have o_ := HORD.out; unfold In at h2_; omega)); replace BK18 := aA.mk (blk_kept BK18.out hkq (fun h2_ => by have o_ := HORD.out; unfold In at h2_; omega)); replace BK21 := aA.mk (blk_kept BK21.out hkq (fun h2_ => by have o_ := HORD.out; unfold In at h2_; omega)); replace BK32 := aA.mk (blk_kept BK32.out hkq (fun h2_ => by have o_ := HORD.out; unfold In at h2_; omega)); replace HB := aA.mk (hbn_); replace HT := aA.mk (Nat.le_trans HT.out hkq.1); (try clear HF20_0); (try clear HS20_0); (try clear HC20_0); clear hbn_ hkp hkq ho0; have hzgb1_0_38 := cs1 BK1.out; have hygb1_0_38 := fs1 BK1.out; obtain ⟨hzgb2_0_38, hzgb2_1_38, hzgb2_2_38, hzgb2_3_38, hzgb2_4_38⟩ := cs5 BK2.out; obtain ⟨hygb2_0_38, hygb2_1_38, hygb2_2_38, hygb2_3_38, hygb2_4_38⟩ := fs5 BK2.out; have hzgb18_0_38 := cs1 BK18.out; have hygb18_0_38 := fs1 BK18.out; have hzgb21_0_38 := cs1 BK21.out; have hygb21_0_38 := fs1 BK21.out; have hzgb32_0_38 := cs1 BK32.out; have hygb32_0_38 := fs1 BK32.out) | ((with_reducible refine bD (f := 19) rfl ?_); refine gate_guard (by first | rfl | kernel_rfl) ?_; refine bL (some 60) rfl rfl Try.func19 (by kernel_rfl) rfl #[.agg #[.slice A32_0 r4_1.length c32_0], .agg #[.slice A18_1 r4_1.length c18_1]] rfl (by (try simp only [List.map_toArray, List.map_cons, List.map_nil]); first | done | rfl) ?_; (with_reducible refine (laws_eqNode.calls k6 _ _ r4_1 _ _ r4_1 true _ ?s1 ?s2 ?s3 ?s4 Q6.out).mono ?_); (case s1 => exact (Kd.F_now HF32_0.out)); (case s2 => exact HC32_0.out); (case s3 => exact (Kd.F_now HF18_0.out)); (case s4 => exact HC18_0.out); rintro e_ w39 ⟨rfl, hb⟩; refine ⟨_, rfl, ?_⟩; replace HF18_0 := aA.mk (Kd.bH HF18_0.out hb); replace HF32_0 := aA.mk (Kd.bH HF32_0.out hb); replace HS32_0 := aA.mk (Kd.bM HS32_0.out hb); replace BK1 := aA.mk (aG BK1.out hb); replace BK2 := aA.mk (aG BK2.out hb); replace BK18 := aA.mk (aG BK18.out hb); replace BK21 := aA.mk (aG BK21.out hb); replace BK32 := aA.mk (aG BK32.out hb); replace HB := aA.mk (aT HB.out hb); replace HT := aA.mk (Nat.le_trans HT.out hb.size); (try clear hb); have hzgb1_0_39 := cs1 BK1.out; have hygb1_0_39 := fs1 BK1.out; obtain ⟨hzgb2_0_39, hzgb2_1_39, hzgb2_2_39, hzgb2_3_39, hzgb2_4_39⟩ := cs5 BK2.out; obtain ⟨hygb2_0_39, hygb2_1_39, hygb2_2_39, hygb2_3_39, hygb2_4_39⟩ := fs5 BK2.out; have hzgb18_0_39 := cs1 BK18.out; have hygb18_0_39 := fs1 BK18.out; have hzgb21_0_39 := cs1 BK21.out; have hygb21_0_39 := fs1 BK21.out; have hzgb32_0_39 := cs1 BK32.out; have hygb32_0_39 := fs1 BK32.out) | ((with_reducible refine bD (f := 26) rfl ?_); refine bL (some 70) rfl rfl Try.func26 (by kernel_rfl) rfl #[.agg #[.slice A32_0 r4_1.length c32_0], .int .i64 1] rfl (by (try simp only [List.map_toArray, List.map_cons, List.map_nil]); first | done | rfl) ?_; (with_reducible refine (laws_markNode.calls (In lo32 hi32) (.slice A32_0 r4_1.length c32_0) r4_1 1 r9_1 r9_2 w _ ?s1 ?s2 Q9.out).mono ?_); (case s1 => exact HB.out); (case s2 => exact Kd.S_lower HS32_0.out (by have o_ := HORD.out; omega)); rintro e_ w40 ⟨rfl, ho0, hbn_, hkp⟩; refine ⟨_, rfl, ?_⟩; have hkq : Kept w39 w40 (In lo32 hi32) := Kept.mono hkp (fun k_ h_ => by first | exact h_ | (have o_ := HORD.out; (try unfold In at *); omega)); obtain ⟨hi40, e2_⟩ : ∃ n_, n_ = w40.heap.size := ⟨_, rfl⟩; have ol_ : hi36 ≤ hi40 := (by rw [e2_]; exact Nat.le_trans HT.out hkq.1); obtain ⟨he0_, hc0_, hf0_⟩ := Mem.back_S (h2 := hi40) (lo := lo32) ho0 (by have o_ := HORD.out; have t_ := HT.out; omega) e2_; replace HF18_0 := aA.mk (Kd.F_kept HF18_0.out hkq (fun k_ h1_ h2_ => by have o_ := HORD.out; unfold In at h1_ h2_; omega)); replace BK1 := aA.mk (blk_kept BK1.out hkq (fun h2_ => by have o_ := HORD.out; unfold In at h2_; omega)); replace BK2 := aA.mk (blk_kept BK2.out hkq (fun h2_ => by have o_ := HORD.out; unfold In at h2_; omega)); replace BK18 := aA.mk (blk_kept BK18.out hkq (fun h2_ => by have o_ := HORD.out; unfold In at h2_; omega)); replace BK21 := aA.mk (blk_kept BK21.out hkq (fun h2_ => by have o_ := HORD.out; unfold In at h2_; omega)); replace BK32 := aA.mk (blk_kept BK32.out hkq (fun h2_ => by have o_ := HORD.out; unfold In at h2_; omega)); replace HB := aA.mk (hbn_); replace HORD := aA.mk (And.intro HORD.out ol_); replace HT := aA.mk (Nat.le_of_eq e2_); replace HL40_0 := aA.mk (he0_); replace HF40_0 := aA.mk (hf0_); replace HC40_0 := aA.mk (hc0_); clear ol_ e2_ hbn_ hkp hkq ho0 he0_ hc0_ hf0_; have hzgb1_0_40 := cs1 BK1.out; have hygb1_0_40 := fs1 BK1.out; obtain ⟨hzgb2_0_40, hzgb2_1_40, hzgb2_2_40, hzgb2_3_40, hzgb2_4_40⟩ := cs5 BK2.out; obtain ⟨hygb2_0_40, hygb2_1_40, hygb2_2_40, hygb2_3_40, hygb2_4_40⟩ := fs5 BK2.out; have hzgb18_0_40 := cs1 BK18.out; have hygb18_0_40 := fs1 BK18.out; have hzgb21_0_40 := cs1 BK21.out; have hygb21_0_40 := fs1 BK21.out; have hzgb32_0_40 := cs1 BK32.out; have hygb32_0_40 := fs1 BK32.out) | ((with_reducible refine bD (f := 27) rfl ?_); refine bL (some 73) rfl rfl Try.func27 (by kernel_rfl) rfl #[.agg #[.slice A32_0 r4_1.length c32_0], .int .i64 1] rfl (by (try simp only [List.map_toArray, List.map_cons, List.map_nil]); first | done | rfl) ?_; refine calls_of_args (args' := #[.agg #[.slice A32_0 r9_2.length c32_0], .int .i64 1]) (by simp only [HL40_0.out]) ?_; (with_reducible refine (laws_heldNode.calls k10 _ _ r9_2 1 r9_1 _ ?s1 ?s2 Q10.out).mono ?_); (case s1 => exact (Kd.F_now HF40_0.out)); (case s2 => exact HC40_0.out); rintro e_ w41 ⟨rfl, hb⟩; refine ⟨_, rfl, ?_⟩; replace HF18_0 := aA.mk (Kd.bH HF18_0.out hb); replace HF40_0 := aA.mk (Kd.bH HF40_0.out hb); replace BK1 := aA.mk (aG BK1.out hb); replace BK2 := aA.mk (aG BK2.out hb); replace BK18 := aA.mk (aG BK18.out hb); replace BK21 := aA.mk (aG BK21.out hb); replace BK32 := aA.mk (aG BK32.out hb); replace HB := aA.mk (aT HB.out hb); replace HT := aA.mk (Nat.le_trans HT.out hb.size); (try clear hb); have hzgb1_0_41 := cs1 BK1.out; have hygb1_0_41 := fs1 BK1.out; obtain ⟨hzgb2_0_41, hzgb2_1_41, hzgb2_2_41, hzgb2_3_41, hzgb2_4_41⟩ := cs5 BK2.out; obtain ⟨hygb2_0_41, hygb2_1_41, hygb2_2_41, hygb2_3_41, hygb2_4_41⟩ := fs5 BK2.out; have hzgb18_0_41 := cs1 BK18.out; have hygb18_0_41 := fs1 BK18.out; have hzgb21_0_41 := cs1 BK21.out; have hygb21_0_41 := fs1 BK21.out; have hzgb32_0_41 := cs1 BK32.out; have hygb32_0_41 := fs1 BK32.out))
 have n_ := aA.mk (Kd.F_drew HF18_0.out)
 clear HF18_0
 have HF18_0 := n_
 clear n_
 have n_ := aA.mk (Kd.F_drew HF40_0.out)
 clear HF40_0
 have HF40_0 := n_
 clear n_
 have n_ := aA.mk (aJ BK1.out)
 clear BK1
 have BK1 := n_
 clear n_
 have n_ := aA.mk (aJ BK2.out)
 clear BK2
 have BK2 := n_
 clear n_
 have n_ := aA.mk (aJ BK18.out)
 clear BK18
 have BK18 := n_
 clear n_
 have n_ := aA.mk (aJ BK21.out)
 clear BK21
 have BK21 := n_
 clear n_
 have n_ := aA.mk (aJ BK32.out)
 clear BK32
 have BK32 := n_
 clear n_
 have n_ := aA.mk (aH HB.out)
 clear HB
 have HB := n_
 clear n_
 have n_ := aA.mk (show _ ≤ w41.drew.heap.size from HT.out)
 clear HT
 have HT := n_
 clear n_
 refine start_ (n := 11) (S := fun w' => w'.cell? ⟨gb1, 0, none⟩ = some (.slice A0_0 l0_0.length c0_0) ∧ w'.cell? ⟨gb2, 0, none⟩ = some (.int .i64 a1_0) ∧ w'.cell? ⟨gb2, 1, none⟩ = some (.int .i64 a1_1) ∧ w'.cell? ⟨gb2, 2, none⟩ = some (.int .i64 a1_2) ∧ w'.cell? ⟨gb2, 3, none⟩ = some (.int .i64 a1_3) ∧ w'.cell? ⟨gb2, 4, none⟩ = some (.int .i64 a1_4)) (ds := [9]) #[false, false, false, false, false, false, false, false, false, false, false] (by kernel_rfl) rfl rfl ⟨(aD BK1.out 0).trans rfl, (aD BK2.out 0).trans rfl, (aD BK2.out 1).trans rfl, (aD BK2.out 2).trans rfl, (aD BK2.out 3).trans rfl, (aD BK2.out 4).trans rfl⟩ (fun hHeld => ?_)
 generalize w41.drew = w42 at HF18_0 HF40_0 BK1 BK2 BK18 BK21 BK32 HB HT hHeld ⊢
 refine take_ (i := 0) (N := some 80) (v := ?_) (a' := ?_) #[true, false, false, false, false, false, false, false, false, false, false] rfl rfl (by kernel_rfl) (fun _ _ _ h => h) (Or.inl ⟨by rfl, ?_⟩) hHeld ?_ ?_
 rotate_left
 ·rintro w' ⟨s0, s1, s2, s3, s4, s5⟩
  go_simp
  with_reducible rfl
 rotate_left
 ·simp only [Act.put, lA, lB, lC, aU, aV]
  rfl
 refine take_ (i := 2) (N := some 82) (v := ?_) (a' := ?_) #[true, false, true, false, false, false, false, false, false, false, false] rfl rfl (by kernel_rfl) (fun _ _ _ h => h) (Or.inl ⟨by rfl, ?_⟩) hHeld ?_ ?_
 rotate_left
 ·rintro w' ⟨s0, s1, s2, s3, s4, s5⟩
  go_simp
  with_reducible rfl
 rotate_left
 ·simp only [Act.put, lA, lB, lC, aU, aV]
  rfl
 refine join_ (σ := Nat × Nat × Nat × Option Addr × Nat × Option Addr × Nat) 2 #[true, true, true, true, true, true, true, true, true, false, false] (fun s_ => [(81, .agg #[.slice s_.2.2.2.1 r2_0.length s_.2.2.2.2.1]), (83, .agg #[.int .i64 r3_1, .int .i64 r3_2, .int .i64 r3_3, .int .i64 r3_4, .int .i64 r3_5]), (84, .tuple #[.agg #[.slice s_.2.2.2.2.2.1 r4_1.length s_.2.2.2.2.2.2], .bool r4_2]), (79, .tuple #[.agg #[.slice s_.2.2.2.2.2.1 r4_1.length s_.2.2.2.2.2.2], .bool r4_2]), (85, .agg #[.slice s_.2.2.2.2.2.1 r4_1.length s_.2.2.2.2.2.2]), (86, .bool r4_2), (14, .pointer (some ⟨s_.1, 0, none⟩))]) (fun s_ w' => (w'.cell? ⟨gb1, 0, none⟩ = some (.slice A0_0 l0_0.length c0_0) ∧ w'.cell? ⟨gb2, 0, none⟩ = some (.int .i64 a1_0) ∧ w'.cell? ⟨gb2, 1, none⟩ = some (.int .i64 a1_1) ∧ w'.cell? ⟨gb2, 2, none⟩ = some (.int .i64 a1_2) ∧ w'.cell? ⟨gb2, 3, none⟩ = some (.int .i64 a1_3) ∧ w'.cell? ⟨gb2, 4, none⟩ = some (.int .i64 a1_4)) ∧ aA (Kd.F (Kd.slice 27 k27) w' (In lo18 hi18) A18_1 r4_1.length r4_1) ∧ aA (Kd.F (Kd.slice 27 k27) w' (In lo32 hi40) A32_0 r9_2.length r9_2) ∧ aA (w'.heap[gb1]? = some (.cells #[.slice A0_0 l0_0.length c0_0] 24 (0, 0))) ∧ aA (w'.heap[gb2]? = some (.cells #[.int .i64 a1_0, .int .i64 a1_1, .int .i64 a1_2, .int .i64 a1_3, .int .i64 a1_4] 50 (0, 0))) ∧ aA (w'.heap[gb18]? = some (.cells #[.slice A18_1 r4_1.length c18_1] 32 (0, 0))) ∧ aA (w'.heap[gb21]? = some (.cells #[.slice A20_0 r2_0.length c20_0] 32 (0, 0))) ∧ aA (w'.heap[gb32]? = some (.cells #[.slice A32_0 r4_1.length c32_0] 32 (0, 0))) ∧ aA (Below w.heap.size w w') ∧ aA (w'.heap[s_.1]? = some (.cells #[.slice none 0 0] 32 (0, 0))) ∧ aA ((hi40 ≤ s_.1 ∧ hi40 ≤ s_.2.1) ∧ (s_.2.1 ≤ s_.2.2.1) ∧ (s_.1 < s_.2.1 ∨ s_.2.2.1 ≤ s_.1) ∧ s_.1 + 1 ≤ w'.heap.size ∧ s_.2.2.1 ≤ w'.heap.size) ∧ aA (Kd.F (Kd.slice 27 k27) w' (In s_.2.1 s_.2.2.1) s_.2.2.2.2.2.1 r4_1.length r4_1) ∧ aA (r4_1.length ≤ s_.2.2.2.2.2.2) ∧ aA (Kd.S (Kd.slice 27 k27) 40 w' w.heap.size (In s_.2.1 s_.2.2.1) (.slice s_.2.2.2.2.2.1 r4_1.length s_.2.2.2.2.2.2) r4_1)) ?_ ?_
 rotate_left
 ·intro hCont
  refine two_ (i := 1) (j := 8) (Ni := some 81) (Nj := some 14) #[true, true, true, false, false, false, false, false, false, false, false] #[true, false, true, false, false, false, false, false, true, false, false] rfl rfl rfl rfl (by kernel_rfl) (by decide) (by decide) (fun K hK => ?_) (fun K hK => ?_)
  ·skip
   refine goes_ Try.func16 (by kernel_rfl) rfl #[.agg #[.slice A0_0 l0_0.length c0_0]] (by rfl) rfl rfl (by (try simp only [List.map_toArray, List.map_cons, List.map_nil]); first | done | rfl) ?_
   (with_reducible refine (laws_toNode.calls k2 _ _ l0_0 r2_0 _ ?s1 ?s2 Q2.out).mono ?_)
   (case s1 => exact (Kd.bN HR0_0.out HB.out))
   (case s2 => exact HC0_0.out)
   rintro e_ w43 ⟨v0_, rfl, ho0, hb⟩
   refine ⟨_, rfl, ?_⟩
   obtain ⟨lo43, hi43, el_, eh_, ol_, oh_⟩ := Mem.times HT.out hb
   (try rw [← el_] at ho0)
   obtain ⟨A43_0, c43_0, ev_, hc0_, hf0_, hs0_⟩ := Mem.new_S ho0 eh_
   subst ev_
   replace HF18_0 := aA.mk (Kd.bH HF18_0.out hb)
   replace HF40_0 := aA.mk (Kd.bH HF40_0.out hb)
   replace BK1 := aA.mk (aG BK1.out hb)
   replace BK2 := aA.mk (aG BK2.out hb)
   replace BK18 := aA.mk (aG BK18.out hb)
   replace BK21 := aA.mk (aG BK21.out hb)
   replace BK32 := aA.mk (aG BK32.out hb)
   replace HB := aA.mk (aT HB.out hb)
   replace HF43_0 := aA.mk (hf0_)
   replace HC43_0 := aA.mk (hc0_)
   replace HS43_0 := aA.mk (hs0_)
   replace HORD := aA.mk (And.intro HORD.out (And.intro ol_ oh_))
   replace HT := aA.mk (Nat.le_of_eq eh_)
   clear ol_ oh_ el_ eh_ ho0 hf0_ hc0_ hs0_
   (try clear hb)
   refine hK.out _ _ ⟨(aD BK1.out 0).trans rfl, (aD BK2.out 0).trans rfl, (aD BK2.out 1).trans rfl, (aD BK2.out 2).trans rfl, (aD BK2.out 3).trans rfl, (aD BK2.out 4).trans rfl⟩ (fun hHeld => ?_)
   clear hK K
   refine bJ (a' := ?_) ?_ ?_
   rotate_left
   ·show Act.put _ (some 81) _ = _
    simp only [Act.put, lA, lB, lC, aU, aV]
    rfl
   refine two_ (i := 3) (j := 8) (Ni := some 83) (Nj := some 14) #[true, true, true, true, false, false, false, false, false, false, false] #[true, true, true, false, false, false, false, false, true, false, false] rfl rfl rfl rfl (by kernel_rfl) (by decide) (by decide) (fun K hK => ?_) (fun K hK => ?_)
   ·skip
    refine goes_ Try.func36 (by kernel_rfl) rfl #[.agg #[.int .i64 a1_0, .int .i64 a1_1, .int .i64 a1_2, .int .i64 a1_3, .int .i64 a1_4]] (by rfl) rfl rfl (by (try simp only [List.map_toArray, List.map_cons, List.map_nil]); first | done | rfl) ?_
    (with_reducible refine (laws_toKey.calls a1_0 a1_1 a1_2 a1_3 a1_4 r3_1 r3_2 r3_3 r3_4 r3_5 _ Q3.out).mono ?_)
    rintro e_ w44 ⟨rfl, hb⟩
    refine ⟨_, rfl, ?_⟩
    replace HF18_0 := aA.mk (Kd.bH HF18_0.out hb)
    replace HF40_0 := aA.mk (Kd.bH HF40_0.out hb)
    replace HF43_0 := aA.mk (Kd.bH HF43_0.out hb)
    replace HS43_0 := aA.mk (Kd.bM HS43_0.out hb)
    replace BK1 := aA.mk (aG BK1.out hb)
    replace BK2 := aA.mk (aG BK2.out hb)
    replace BK18 := aA.mk (aG BK18.out hb)
    replace BK21 := aA.mk (aG BK21.out hb)
    replace BK32 := aA.mk (aG BK32.out hb)
    replace HB := aA.mk (aT HB.out hb)
    replace HT := aA.mk (Nat.le_trans HT.out hb.size)
    (try clear hb)
    refine hK.out _ _ ⟨(aD BK1.out 0).trans rfl, (aD BK2.out 0).trans rfl, (aD BK2.out 1).trans rfl, (aD BK2.out 2).trans rfl, (aD BK2.out 3).trans rfl, (aD BK2.out 4).trans rfl⟩ (fun hHeld => ?_)
    clear hK K
    refine bJ (a' := ?_) ?_ ?_
    rotate_left
    ·show Act.put _ (some 83) _ = _
     simp only [Act.put, lA, lB, lC, aU, aV]
     rfl
    refine two_ (i := 4) (j := 8) (Ni := some 84) (Nj := some 14) #[true, true, true, true, true, false, false, false, false, false, false] #[true, true, true, true, false, false, false, false, true, false, false] rfl rfl rfl rfl (by kernel_rfl) (by decide) (by decide) (fun K hK => ?_) (fun K hK => ?_)
    ·skip
     refine goes_ Try.func37 (by kernel_rfl) rfl #[.agg #[.slice A43_0 r2_0.length c43_0], .agg #[.int .i64 r3_1, .int .i64 r3_2, .int .i64 r3_3, .int .i64 r3_4, .int .i64 r3_5]] (by rfl) rfl rfl (by (try simp only [List.map_toArray, List.map_cons, List.map_nil]); first | done | rfl) ?_
     (with_reducible refine (impl_NodePut.calls k5 _ _ r2_0 r3_1 r3_2 r3_3 r3_4 r3_5 r4_1 r4_2 _ ?s1 ?s2 Q5.out).mono ?_)
     (case s1 => exact (Kd.F_now HF43_0.out))
     (case s2 => exact HC43_0.out)
     rintro e_ w45 ⟨v0_, rfl, ho0, hb⟩
     refine ⟨_, rfl, ?_⟩
     obtain ⟨lo45, hi45, el_, eh_, ol_, oh_⟩ := Mem.times HT.out hb
     (try rw [← el_] at ho0)
     obtain ⟨A45_0, c45_0, ev_, hc0_, hf0_, hs0_⟩ := Mem.new_S ho0 eh_
     subst ev_
     replace HF18_0 := aA.mk (Kd.bH HF18_0.out hb)
     replace HF40_0 := aA.mk (Kd.bH HF40_0.out hb)
     replace HF43_0 := aA.mk (Kd.bH HF43_0.out hb)
     replace HS43_0 := aA.mk (Kd.bM HS43_0.out hb)
     replace BK1 := aA.mk (aG BK1.out hb)
     replace BK2 := aA.mk (aG BK2.out hb)
     replace BK18 := aA.mk (aG BK18.out hb)
     replace BK21 := aA.mk (aG BK21.out hb)
     replace BK32 := aA.mk (aG BK32.out hb)
     replace HB := aA.mk (aT HB.out hb)
     replace HF45_0 := aA.mk (hf0_)
     replace HC45_0 := aA.mk (hc0_)
     replace HS45_0 := aA.mk (hs0_)
     replace HORD := aA.mk (And.intro HORD.out (And.intro ol_ oh_))
     replace HT := aA.mk (Nat.le_of_eq eh_)
     clear ol_ oh_ el_ eh_ ho0 hf0_ hc0_ hs0_
     (try clear hb)
     refine hK.out _ _ ⟨(aD BK1.out 0).trans rfl, (aD BK2.out 0).trans rfl, (aD BK2.out 1).trans rfl, (aD BK2.out 2).trans rfl, (aD BK2.out 3).trans rfl, (aD BK2.out 4).trans rfl⟩ (fun hHeld => ?_)
     clear hK K
     refine bJ (a' := ?_) ?_ ?_
     rotate_left
     ·show Act.put _ (some 84) _ = _
      simp only [Act.put, lA, lB, lC, aU, aV]
      rfl
     refine aW (i := 5) (N := some 79) (v := ?_) (a' := ?_) #[true, true, true, true, true, true, false, false, false, false, false] rfl rfl (by kernel_rfl) (fun _ _ _ h => h) (Or.inl ⟨by rfl, ?_⟩) ?_ ?_
     rotate_left
     ·intro w'
      go_simp
      with_reducible rfl
     rotate_left
     ·simp only [Act.put, lA, lB, lC, aU, aV]
      rfl
     refine aW (i := 6) (N := some 85) (v := ?_) (a' := ?_) #[true, true, true, true, true, true, true, false, false, false, false] rfl rfl (by kernel_rfl) (fun _ _ _ h => h) (Or.inl ⟨by rfl, ?_⟩) ?_ ?_
     rotate_left
     ·intro w'
      go_simp
      with_reducible rfl
     rotate_left
     ·simp only [Act.put, lA, lB, lC, aU, aV]
      rfl
     refine aW (i := 7) (N := some 86) (v := ?_) (a' := ?_) #[true, true, true, true, true, true, true, true, false, false, false] rfl rfl (by kernel_rfl) (fun _ _ _ h => h) (Or.inl ⟨by rfl, ?_⟩) ?_ ?_
     rotate_left
     ·intro w'
      go_simp
      with_reducible rfl
     rotate_left
     ·simp only [Act.put, lA, lB, lC, aU, aV]
      rfl
     refine one_ (i := 8) (N := some 14) #[true, true, true, true, true, true, true, true, true, false, false] rfl rfl (by kernel_rfl) (by decide) (fun K hK => ?_)
     refine box_step ?hg (N := 14) ?hd (cs := #[.slice none 0 0]) (t := 32) ?hr ?_
     (case hd => rfl)
     (case hg => rfl)
     (case hr => first | (go_simp; done) | (go_simp; rfl))
     intro gb46 hg_ w46 hbox hb
     have hge_ : hi45 ≤ gb46 := (by rw [hg_]; exact HT.out)
     have hlt_ : gb46 + 1 ≤ w46.heap.size := aY hbox
     replace HF18_0 := aA.mk (Kd.bH HF18_0.out hb)
     replace HF40_0 := aA.mk (Kd.bH HF40_0.out hb)
     replace HF43_0 := aA.mk (Kd.bH HF43_0.out hb)
     replace HS43_0 := aA.mk (Kd.bM HS43_0.out hb)
     replace HF45_0 := aA.mk (Kd.bH HF45_0.out hb)
     replace HS45_0 := aA.mk (Kd.bM HS45_0.out hb)
     replace BK1 := aA.mk (aG BK1.out hb)
     replace BK2 := aA.mk (aG BK2.out hb)
     replace BK18 := aA.mk (aG BK18.out hb)
     replace BK21 := aA.mk (aG BK21.out hb)
     replace BK32 := aA.mk (aG BK32.out hb)
     replace HB := aA.mk (aT HB.out hb)
     replace BK46 := aA.mk (hbox)
     replace HORD := aA.mk (And.intro HORD.out (And.intro hge_ (Nat.le_succ gb46)))
     replace HT := aA.mk (hlt_)
     clear hb hbox hg_ hge_ hlt_
     refine hK.out _ _ ⟨(aD BK1.out 0).trans rfl, (aD BK2.out 0).trans rfl, (aD BK2.out 1).trans rfl, (aD BK2.out 2).trans rfl, (aD BK2.out 3).trans rfl, (aD BK2.out 4).trans rfl⟩ (fun hHeld => ?_)
     clear hK K
     refine bJ (a' := ?_) ?_ ?_
     rotate_left
     ·show Act.put _ (some 14) _ = _
      simp only [Act.put, lA, lB, lC, aU, aV]
      rfl
     exact bJ (by simp only [putAll, Act.put, lA, lB, lC]) (hCont (gb46, lo45, hi45, A43_0, c43_0, A45_0, c45_0) _ ⟨hHeld, HF18_0, HF40_0, BK1, BK2, BK18, BK21, BK32, HB, BK46, ⟨by have o_ := HORD.out; have t_ := HT.out; simp only []; omega⟩, HF45_0, HC45_0, ⟨Kd.S_lower HS45_0.out (by have o_ := HORD.out; omega)⟩⟩)
    ·skip
     refine box_step ?hg (N := 14) ?hd (cs := #[.slice none 0 0]) (t := 32) ?hr ?_
     (case hd => rfl)
     (case hg => rfl)
     (case hr => first | (go_simp; done) | (go_simp; rfl))
     intro gb47 hg_ w47 hbox hb
     have hge_ : hi43 ≤ gb47 := (by rw [hg_]; exact HT.out)
     have hlt_ : gb47 + 1 ≤ w47.heap.size := aY hbox
     replace HF18_0 := aA.mk (Kd.bH HF18_0.out hb)
     replace HF40_0 := aA.mk (Kd.bH HF40_0.out hb)
     replace HF43_0 := aA.mk (Kd.bH HF43_0.out hb)
     replace HS43_0 := aA.mk (Kd.bM HS43_0.out hb)
     replace BK1 := aA.mk (aG BK1.out hb)
     replace BK2 := aA.mk (aG BK2.out hb)
     replace BK18 := aA.mk (aG BK18.out hb)
     replace BK21 := aA.mk (aG BK21.out hb)
     replace BK32 := aA.mk (aG BK32.out hb)
     replace HB := aA.mk (aT HB.out hb)
     replace BK47 := aA.mk (hbox)
     replace HORD := aA.mk (And.intro HORD.out (And.intro hge_ (Nat.le_succ gb47)))
     replace HT := aA.mk (hlt_)
     clear hb hbox hg_ hge_ hlt_
     refine hK.out _ _ ⟨(aD BK1.out 0).trans rfl, (aD BK2.out 0).trans rfl, (aD BK2.out 1).trans rfl, (aD BK2.out 2).trans rfl, (aD BK2.out 3).trans rfl, (aD BK2.out 4).trans rfl⟩ (fun hHeld => ?_)
     clear hK K
     refine bJ (a' := ?_) ?_ ?_
     rotate_left
     ·show Act.put _ (some 14) _ = _
      simp only [Act.put, lA, lB, lC, aU, aV]
      rfl
     refine one_ (i := 4) (N := some 84) #[true, true, true, true, true, false, false, false, true, false, false] rfl rfl (by kernel_rfl) (by decide) (fun K hK => ?_)
     refine goes_ Try.func37 (by kernel_rfl) rfl #[.agg #[.slice A43_0 r2_0.length c43_0], .agg #[.int .i64 r3_1, .int .i64 r3_2, .int .i64 r3_3, .int .i64 r3_4, .int .i64 r3_5]] (by rfl) rfl rfl (by (try simp only [List.map_toArray, List.map_cons, List.map_nil]); first | done | rfl) ?_
     (with_reducible refine (impl_NodePut.calls k5 _ _ r2_0 r3_1 r3_2 r3_3 r3_4 r3_5 r4_1 r4_2 _ ?s1 ?s2 Q5.out).mono ?_)
     (case s1 => exact (Kd.F_now HF43_0.out))
     (case s2 => exact HC43_0.out)
     rintro e_ w48 ⟨v0_, rfl, ho0, hb⟩
     refine ⟨_, rfl, ?_⟩
     obtain ⟨lo48, hi48, el_, eh_, ol_, oh_⟩ := Mem.times HT.out hb
     (try rw [← el_] at ho0)
     obtain ⟨A48_0, c48_0, ev_, hc0_, hf0_, hs0_⟩ := Mem.new_S ho0 eh_
     subst ev_
     replace HF18_0 := aA.mk (Kd.bH HF18_0.out hb)
     replace HF40_0 := aA.mk (Kd.bH HF40_0.out hb)
     replace HF43_0 := aA.mk (Kd.bH HF43_0.out hb)
     replace HS43_0 := aA.mk (Kd.bM HS43_0.out hb)
     replace BK1 := aA.mk (aG BK1.out hb)
     replace BK2 := aA.mk (aG BK2.out hb)
     replace BK18 := aA.mk (aG BK18.out hb)
     replace BK21 := aA.mk (aG BK21.out hb)
     replace BK32 := aA.mk (aG BK32.out hb)
     replace BK47 := aA.mk (aG BK47.out hb)
     replace HB := aA.mk (aT HB.out hb)
     replace HF48_0 := aA.mk (hf0_)
     replace HC48_0 := aA.mk (hc0_)
     replace HS48_0 := aA.mk (hs0_)
     replace HORD := aA.mk (And.intro HORD.out (And.intro ol_ oh_))
     replace HT := aA.mk (Nat.le_of_eq eh_)
     clear ol_ oh_ el_ eh_ ho0 hf0_ hc0_ hs0_
     (try clear hb)
     refine hK.out _ _ ⟨(aD BK1.out 0).trans rfl, (aD BK2.out 0).trans rfl, (aD BK2.out 1).trans rfl, (aD BK2.out 2).trans rfl, (aD BK2.out 3).trans rfl, (aD BK2.out 4).trans rfl⟩ (fun hHeld => ?_)
     clear hK K
     refine bJ (a' := ?_) ?_ ?_
     rotate_left
     ·show Act.put _ (some 84) _ = _
      simp only [Act.put, lA, lB, lC, aU, aV]
      rfl
     refine aW (i := 5) (N := some 79) (v := ?_) (a' := ?_) #[true, true, true, true, true, true, false, false, true, false, false] rfl rfl (by kernel_rfl) (fun _ _ _ h => h) (Or.inl ⟨by rfl, ?_⟩) ?_ ?_
     rotate_left
     ·intro w'
      go_simp
      with_reducible rfl
     rotate_left
     ·simp only [Act.put, lA, lB, lC, aU, aV]
      rfl
     refine aW (i := 6) (N := some 85) (v := ?_) (a' := ?_) #[true, true, true, true, true, true, true, false, true, false, false] rfl rfl (by kernel_rfl) (fun _ _ _ h => h) (Or.inl ⟨by rfl, ?_⟩) ?_ ?_
     rotate_left
     ·intro w'
      go_simp
      with_reducible rfl
     rotate_left
     ·simp only [Act.put, lA, lB, lC, aU, aV]
      rfl
     refine aW (i := 7) (N := some 86) (v := ?_) (a' := ?_) #[true, true, true, true, true, true, true, true, true, false, false] rfl rfl (by kernel_rfl) (fun _ _ _ h => h) (Or.inl ⟨by rfl, ?_⟩) ?_ ?_
     rotate_left
     ·intro w'
      go_simp
      with_reducible rfl
     rotate_left
     ·simp only [Act.put, lA, lB, lC, aU, aV]
      rfl
     exact bJ (by simp only [putAll, Act.put, lA, lB, lC]) (hCont (gb47, lo48, hi48, A43_0, c43_0, A48_0, c48_0) _ ⟨hHeld, HF18_0, HF40_0, BK1, BK2, BK18, BK21, BK32, HB, BK47, ⟨by have o_ := HORD.out; have t_ := HT.out; simp only []; omega⟩, HF48_0, HC48_0, ⟨Kd.S_lower HS48_0.out (by have o_ := HORD.out; omega)⟩⟩)
   ·skip
    refine box_step ?hg (N := 14) ?hd (cs := #[.slice none 0 0]) (t := 32) ?hr ?_
    (case hd => rfl)
    (case hg => rfl)
    (case hr => first | (go_simp; done) | (go_simp; rfl))
    intro gb49 hg_ w49 hbox hb
    have hge_ : hi43 ≤ gb49 := (by rw [hg_]; exact HT.out)
    have hlt_ : gb49 + 1 ≤ w49.heap.size := aY hbox
    replace HF18_0 := aA.mk (Kd.bH HF18_0.out hb)
    replace HF40_0 := aA.mk (Kd.bH HF40_0.out hb)
    replace HF43_0 := aA.mk (Kd.bH HF43_0.out hb)
    replace HS43_0 := aA.mk (Kd.bM HS43_0.out hb)
    replace BK1 := aA.mk (aG BK1.out hb)
    replace BK2 := aA.mk (aG BK2.out hb)
    replace BK18 := aA.mk (aG BK18.out hb)
    replace BK21 := aA.mk (aG BK21.out hb)
    replace BK32 := aA.mk (aG BK32.out hb)
    replace HB := aA.mk (aT HB.out hb)
    replace BK49 := aA.mk (hbox)
    replace HORD := aA.mk (And.intro HORD.out (And.intro hge_ (Nat.le_succ gb49)))
    replace HT := aA.mk (hlt_)
    clear hb hbox hg_ hge_ hlt_
    refine hK.out _ _ ⟨(aD BK1.out 0).trans rfl, (aD BK2.out 0).trans rfl, (aD BK2.out 1).trans rfl, (aD BK2.out 2).trans rfl, (aD BK2.out 3).trans rfl, (aD BK2.out 4).trans rfl⟩ (fun hHeld => ?_)
    clear hK K
    refine bJ (a' := ?_) ?_ ?_
    rotate_left
    ·show Act.put _ (some 14) _ = _
     simp only [Act.put, lA, lB, lC, aU, aV]
     rfl
    refine one_ (i := 3) (N := some 83) #[true, true, true, true, false, false, false, false, true, false, false] rfl rfl (by kernel_rfl) (by decide) (fun K hK => ?_)
    refine goes_ Try.func36 (by kernel_rfl) rfl #[.agg #[.int .i64 a1_0, .int .i64 a1_1, .int .i64 a1_2, .int .i64 a1_3, .int .i64 a1_4]] (by rfl) rfl rfl (by (try simp only [List.map_toArray, List.map_cons, List.map_nil]); first | done | rfl) ?_
    (with_reducible refine (laws_toKey.calls a1_0 a1_1 a1_2 a1_3 a1_4 r3_1 r3_2 r3_3 r3_4 r3_5 _ Q3.out).mono ?_)
    rintro e_ w50 ⟨rfl, hb⟩
    refine ⟨_, rfl, ?_⟩
    replace HF18_0 := aA.mk (Kd.bH HF18_0.out hb)
    replace HF40_0 := aA.mk (Kd.bH HF40_0.out hb)
    replace HF43_0 := aA.mk (Kd.bH HF43_0.out hb)
    replace HS43_0 := aA.mk (Kd.bM HS43_0.out hb)
    replace BK1 := aA.mk (aG BK1.out hb)
    replace BK2 := aA.mk (aG BK2.out hb)
    replace BK18 := aA.mk (aG BK18.out hb)
    replace BK21 := aA.mk (aG BK21.out hb)
    replace BK32 := aA.mk (aG BK32.out hb)
    replace BK49 := aA.mk (aG BK49.out hb)
    replace HB := aA.mk (aT HB.out hb)
    replace HT := aA.mk (Nat.le_trans HT.out hb.size)
    (try clear hb)
    refine hK.out _ _ ⟨(aD BK1.out 0).trans rfl, (aD BK2.out 0).trans rfl, (aD BK2.out 1).trans rfl, (aD BK2.out 2).trans rfl, (aD BK2.out 3).trans rfl, (aD BK2.out 4).trans rfl⟩ (fun hHeld => ?_)
    clear hK K
    refine bJ (a' := ?_) ?_ ?_
    rotate_left
    ·show Act.put _ (some 83) _ = _
     simp only [Act.put, lA, lB, lC, aU, aV]
     rfl
    refine one_ (i := 4) (N := some 84) #[true, true, true, true, true, false, false, false, true, false, false] rfl rfl (by kernel_rfl) (by decide) (fun K hK => ?_)
    refine goes_ Try.func37 (by kernel_rfl) rfl #[.agg #[.slice A43_0 r2_0.length c43_0], .agg #[.int .i64 r3_1, .int .i64 r3_2, .int .i64 r3_3, .int .i64 r3_4, .int .i64 r3_5]] (by rfl) rfl rfl (by (try simp only [List.map_toArray, List.map_cons, List.map_nil]); first | done | rfl) ?_
    (with_reducible refine (impl_NodePut.calls k5 _ _ r2_0 r3_1 r3_2 r3_3 r3_4 r3_5 r4_1 r4_2 _ ?s1 ?s2 Q5.out).mono ?_)
    (case s1 => exact (Kd.F_now HF43_0.out))
    (case s2 => exact HC43_0.out)
    rintro e_ w51 ⟨v0_, rfl, ho0, hb⟩
    refine ⟨_, rfl, ?_⟩
    obtain ⟨lo51, hi51, el_, eh_, ol_, oh_⟩ := Mem.times HT.out hb
    (try rw [← el_] at ho0)
    obtain ⟨A51_0, c51_0, ev_, hc0_, hf0_, hs0_⟩ := Mem.new_S ho0 eh_
    subst ev_
    replace HF18_0 := aA.mk (Kd.bH HF18_0.out hb)
    replace HF40_0 := aA.mk (Kd.bH HF40_0.out hb)
    replace BK1 := aA.mk (aG BK1.out hb)
    replace BK2 := aA.mk (aG BK2.out hb)
    replace BK18 := aA.mk (aG BK18.out hb)
    replace BK21 := aA.mk (aG BK21.out hb)
    replace BK32 := aA.mk (aG BK32.out hb)
    replace BK49 := aA.mk (aG BK49.out hb)
    replace HB := aA.mk (aT HB.out hb)
    replace HF51_0 := aA.mk (hf0_)
    replace HC51_0 := aA.mk (hc0_)
    replace HS51_0 := aA.mk (hs0_)
    replace HORD := aA.mk (And.intro HORD.out (And.intro ol_ oh_))
    replace HT := aA.mk (Nat.le_of_eq eh_)
    (try clear HF43_0)
    (try clear HS43_0)
    (try clear HC43_0)
    clear ol_ oh_ el_ eh_ ho0 hf0_ hc0_ hs0_
    (try clear hb)
    refine hK.out _ _ ⟨(aD BK1.out 0).trans rfl, (aD BK2.out 0).trans rfl, (aD BK2.out 1).trans rfl, (aD BK2.out 2).trans rfl, (aD BK2.out 3).trans rfl, (aD BK2.out 4).trans rfl⟩ (fun hHeld => ?_)
    clear hK K
    refine bJ (a' := ?_) ?_ ?_
    rotate_left
    ·show Act.put _ (some 84) _ = _
     simp only [Act.put, lA, lB, lC, aU, aV]
     rfl
    refine aW (i := 5) (N := some 79) (v := ?_) (a' := ?_) #[true, true, true, true, true, true, false, false, true, false, false] rfl rfl (by kernel_rfl) (fun _ _ _ h => h) (Or.inl ⟨by rfl, ?_⟩) ?_ ?_
    rotate_left
    ·intro w'
     go_simp
     with_reducible rfl
    rotate_left
    ·simp only [Act.put, lA, lB, lC, aU, aV]
     rfl
    refine aW (i := 6) (N := some 85) (v := ?_) (a' := ?_) #[true, true, true, true, true, true, true, false, true, false, false] rfl rfl (by kernel_rfl) (fun _ _ _ h => h) (Or.inl ⟨by rfl, ?_⟩) ?_ ?_
    rotate_left
    ·intro w'
     go_simp
     with_reducible rfl
    rotate_left
    ·simp only [Act.put, lA, lB, lC, aU, aV]
     rfl
    refine aW (i := 7) (N := some 86) (v := ?_) (a' := ?_) #[true, true, true, true, true, true, true, true, true, false, false] rfl rfl (by kernel_rfl) (fun _ _ _ h => h) (Or.inl ⟨by rfl, ?_⟩) ?_ ?_
    rotate_left
    ·intro w'
     go_simp
     with_reducible rfl
    rotate_left
    ·simp only [Act.put, lA, lB, lC, aU, aV]
     rfl
    exact bJ (by simp only [putAll, Act.put, lA, lB, lC]) (hCont (gb49, lo51, hi51, A43_0, c43_0, A51_0, c51_0) _ ⟨hHeld, HF18_0, HF40_0, BK1, BK2, BK18, BK21, BK32, HB, BK49, ⟨by have o_ := HORD.out; have t_ := HT.out; simp only []; omega⟩, HF51_0, HC51_0, ⟨Kd.S_lower HS51_0.out (by have o_ := HORD.out; omega)⟩⟩)
  ·skip
   refine box_step ?hg (N := 14) ?hd (cs := #[.slice none 0 0]) (t := 32) ?hr ?_
   (case hd => rfl)
   (case hg => rfl)
   (case hr => first | (go_simp; done) | (go_simp; rfl))
   intro gb52 hg_ w52 hbox hb
   have hge_ : hi40 ≤ gb52 := (by rw [hg_]; exact HT.out)
   have hlt_ : gb52 + 1 ≤ w52.heap.size := aY hbox
   replace HF18_0 := aA.mk (Kd.bH HF18_0.out hb)
   replace HF40_0 := aA.mk (Kd.bH HF40_0.out hb)
   replace BK1 := aA.mk (aG BK1.out hb)
   replace BK2 := aA.mk (aG BK2.out hb)
   replace BK18 := aA.mk (aG BK18.out hb)
   replace BK21 := aA.mk (aG BK21.out hb)
   replace BK32 := aA.mk (aG BK32.out hb)
   replace HB := aA.mk (aT HB.out hb)
   replace BK52 := aA.mk (hbox)
   replace HORD := aA.mk (And.intro HORD.out (And.intro hge_ (Nat.le_succ gb52)))
   replace HT := aA.mk (hlt_)
   clear hb hbox hg_ hge_ hlt_
   refine hK.out _ _ ⟨(aD BK1.out 0).trans rfl, (aD BK2.out 0).trans rfl, (aD BK2.out 1).trans rfl, (aD BK2.out 2).trans rfl, (aD BK2.out 3).trans rfl, (aD BK2.out 4).trans rfl⟩ (fun hHeld => ?_)
   clear hK K
   refine bJ (a' := ?_) ?_ ?_
   rotate_left
   ·show Act.put _ (some 14) _ = _
    simp only [Act.put, lA, lB, lC, aU, aV]
    rfl
   refine one_ (i := 1) (N := some 81) #[true, true, true, false, false, false, false, false, true, false, false] rfl rfl (by kernel_rfl) (by decide) (fun K hK => ?_)
   refine goes_ Try.func16 (by kernel_rfl) rfl #[.agg #[.slice A0_0 l0_0.length c0_0]] (by rfl) rfl rfl (by (try simp only [List.map_toArray, List.map_cons, List.map_nil]); first | done | rfl) ?_
   (with_reducible refine (laws_toNode.calls k2 _ _ l0_0 r2_0 _ ?s1 ?s2 Q2.out).mono ?_)
   (case s1 => exact (Kd.bN HR0_0.out HB.out))
   (case s2 => exact HC0_0.out)
   rintro e_ w53 ⟨v0_, rfl, ho0, hb⟩
   refine ⟨_, rfl, ?_⟩
   obtain ⟨lo53, hi53, el_, eh_, ol_, oh_⟩ := Mem.times HT.out hb
   (try rw [← el_] at ho0)
   obtain ⟨A53_0, c53_0, ev_, hc0_, hf0_, hs0_⟩ := Mem.new_S ho0 eh_
   subst ev_
   replace HF18_0 := aA.mk (Kd.bH HF18_0.out hb)
   replace HF40_0 := aA.mk (Kd.bH HF40_0.out hb)
   replace BK1 := aA.mk (aG BK1.out hb)
   replace BK2 := aA.mk (aG BK2.out hb)
   replace BK18 := aA.mk (aG BK18.out hb)
   replace BK21 := aA.mk (aG BK21.out hb)
   replace BK32 := aA.mk (aG BK32.out hb)
   replace BK52 := aA.mk (aG BK52.out hb)
   replace HB := aA.mk (aT HB.out hb)
   replace HF53_0 := aA.mk (hf0_)
   replace HC53_0 := aA.mk (hc0_)
   replace HS53_0 := aA.mk (hs0_)
   replace HORD := aA.mk (And.intro HORD.out (And.intro ol_ oh_))
   replace HT := aA.mk (Nat.le_of_eq eh_)
   clear ol_ oh_ el_ eh_ ho0 hf0_ hc0_ hs0_
   (try clear hb)
   refine hK.out _ _ ⟨(aD BK1.out 0).trans rfl, (aD BK2.out 0).trans rfl, (aD BK2.out 1).trans rfl, (aD BK2.out 2).trans rfl, (aD BK2.out 3).trans rfl, (aD BK2.out 4).trans rfl⟩ (fun hHeld => ?_)
   clear hK K
   refine bJ (a' := ?_) ?_ ?_
   rotate_left
   ·show Act.put _ (some 81) _ = _
    simp only [Act.put, lA, lB, lC, aU, aV]
    rfl
   refine one_ (i := 3) (N := some 83) #[true, true, true, true, false, false, false, false, true, false, false] rfl rfl (by kernel_rfl) (by decide) (fun K hK => ?_)
   refine goes_ Try.func36 (by kernel_rfl) rfl #[.agg #[.int .i64 a1_0, .int .i64 a1_1, .int .i64 a1_2, .int .i64 a1_3, .int .i64 a1_4]] (by rfl) rfl rfl (by (try simp only [List.map_toArray, List.map_cons, List.map_nil]); first | done | rfl) ?_
   (with_reducible refine (laws_toKey.calls a1_0 a1_1 a1_2 a1_3 a1_4 r3_1 r3_2 r3_3 r3_4 r3_5 _ Q3.out).mono ?_)
   rintro e_ w54 ⟨rfl, hb⟩
   refine ⟨_, rfl, ?_⟩
   replace HF18_0 := aA.mk (Kd.bH HF18_0.out hb)
   replace HF40_0 := aA.mk (Kd.bH HF40_0.out hb)
   replace HF53_0 := aA.mk (Kd.bH HF53_0.out hb)
   replace HS53_0 := aA.mk (Kd.bM HS53_0.out hb)
   replace BK1 := aA.mk (aG BK1.out hb)
   replace BK2 := aA.mk (aG BK2.out hb)
   replace BK18 := aA.mk (aG BK18.out hb)
   replace BK21 := aA.mk (aG BK21.out hb)
   replace BK32 := aA.mk (aG BK32.out hb)
   replace BK52 := aA.mk (aG BK52.out hb)
   replace HB := aA.mk (aT HB.out hb)
   replace HT := aA.mk (Nat.le_trans HT.out hb.size)
   (try clear hb)
   refine hK.out _ _ ⟨(aD BK1.out 0).trans rfl, (aD BK2.out 0).trans rfl, (aD BK2.out 1).trans rfl, (aD BK2.out 2).trans rfl, (aD BK2.out 3).trans rfl, (aD BK2.out 4).trans rfl⟩ (fun hHeld => ?_)
   clear hK K
   refine bJ (a' := ?_) ?_ ?_
   rotate_left
   ·show Act.put _ (some 83) _ = _
    simp only [Act.put, lA, lB, lC, aU, aV]
    rfl
   refine one_ (i := 4) (N := some 84) #[true, true, true, true, true, false, false, false, true, false, false] rfl rfl (by kernel_rfl) (by decide) (fun K hK => ?_)
   refine goes_ Try.func37 (by kernel_rfl) rfl #[.agg #[.slice A53_0 r2_0.length c53_0], .agg #[.int .i64 r3_1, .int .i64 r3_2, .int .i64 r3_3, .int .i64 r3_4, .int .i64 r3_5]] (by rfl) rfl rfl (by (try simp only [List.map_toArray, List.map_cons, List.map_nil]); first | done | rfl) ?_
   (with_reducible refine (impl_NodePut.calls k5 _ _ r2_0 r3_1 r3_2 r3_3 r3_4 r3_5 r4_1 r4_2 _ ?s1 ?s2 Q5.out).mono ?_)
   (case s1 => exact (Kd.F_now HF53_0.out))
   (case s2 => exact HC53_0.out)
   rintro e_ w55 ⟨v0_, rfl, ho0, hb⟩
   refine ⟨_, rfl, ?_⟩
   obtain ⟨lo55, hi55, el_, eh_, ol_, oh_⟩ := Mem.times HT.out hb
   (try rw [← el_] at ho0)
   obtain ⟨A55_0, c55_0, ev_, hc0_, hf0_, hs0_⟩ := Mem.new_S ho0 eh_
   subst ev_
   replace HF18_0 := aA.mk (Kd.bH HF18_0.out hb)
   replace HF40_0 := aA.mk (Kd.bH HF40_0.out hb)
   replace BK1 := aA.mk (aG BK1.out hb)
   replace BK2 := aA.mk (aG BK2.out hb)
   replace BK18 := aA.mk (aG BK18.out hb)
   replace BK21 := aA.mk (aG BK21.out hb)
   replace BK32 := aA.mk (aG BK32.out hb)
   replace BK52 := aA.mk (aG BK52.out hb)
   replace HB := aA.mk (aT HB.out hb)
   replace HF55_0 := aA.mk (hf0_)
   replace HC55_0 := aA.mk (hc0_)
   replace HS55_0 := aA.mk (hs0_)
   replace HORD := aA.mk (And.intro HORD.out (And.intro ol_ oh_))
   replace HT := aA.mk (Nat.le_of_eq eh_)
   (try clear HF53_0)
   (try clear HS53_0)
   (try clear HC53_0)
   clear ol_ oh_ el_ eh_ ho0 hf0_ hc0_ hs0_
   (try clear hb)
   refine hK.out _ _ ⟨(aD BK1.out 0).trans rfl, (aD BK2.out 0).trans rfl, (aD BK2.out 1).trans rfl, (aD BK2.out 2).trans rfl, (aD BK2.out 3).trans rfl, (aD BK2.out 4).trans rfl⟩ (fun hHeld => ?_)
   clear hK K
   refine bJ (a' := ?_) ?_ ?_
   rotate_left
   ·show Act.put _ (some 84) _ = _
    simp only [Act.put, lA, lB, lC, aU, aV]
    rfl
   refine aW (i := 5) (N := some 79) (v := ?_) (a' := ?_) #[true, true, true, true, true, true, false, false, true, false, false] rfl rfl (by kernel_rfl) (fun _ _ _ h => h) (Or.inl ⟨by rfl, ?_⟩) ?_ ?_
   rotate_left
   ·intro w'
    go_simp
    with_reducible rfl
   rotate_left
   ·simp only [Act.put, lA, lB, lC, aU, aV]
    rfl
   refine aW (i := 6) (N := some 85) (v := ?_) (a' := ?_) #[true, true, true, true, true, true, true, false, true, false, false] rfl rfl (by kernel_rfl) (fun _ _ _ h => h) (Or.inl ⟨by rfl, ?_⟩) ?_ ?_
   rotate_left
   ·intro w'
    go_simp
    with_reducible rfl
   rotate_left
   ·simp only [Act.put, lA, lB, lC, aU, aV]
    rfl
   refine aW (i := 7) (N := some 86) (v := ?_) (a' := ?_) #[true, true, true, true, true, true, true, true, true, false, false] rfl rfl (by kernel_rfl) (fun _ _ _ h => h) (Or.inl ⟨by rfl, ?_⟩) ?_ ?_
   rotate_left
   ·intro w'
    go_simp
    with_reducible rfl
   rotate_left
   ·simp only [Act.put, lA, lB, lC, aU, aV]
    rfl
   exact bJ (by simp only [putAll, Act.put, lA, lB, lC]) (hCont (gb52, lo55, hi55, A53_0, c53_0, A55_0, c55_0) _ ⟨hHeld, HF18_0, HF40_0, BK1, BK2, BK18, BK21, BK32, HB, BK52, ⟨by have o_ := HORD.out; have t_ := HT.out; simp only []; omega⟩, HF55_0, HC55_0, ⟨Kd.S_lower HS55_0.out (by have o_ := HORD.out; omega)⟩⟩)
 clear HF18_0 HF40_0 BK1 BK2 BK18 BK21 BK32 HB HT hHeld
 rintro ⟨gb56, lo56, hi56, A56_0, c56_0, A56_1, c56_1⟩ w56 ⟨hHeld, HF18_0, HF40_0, BK1, BK2, BK18, BK21, BK32, HB, f_0, f_1, f_2, f_3, f_4⟩
 have BK56 := aA.mk (show w56.heap[gb56]? = some (.cells #[.slice none 0 0] 32 (0, 0)) from f_0.out)
 clear f_0
 have HO_ := aA.mk (show (hi40 ≤ gb56 ∧ hi40 ≤ lo56) ∧ (lo56 ≤ hi56) ∧ (gb56 < lo56 ∨ hi56 ≤ gb56) ∧ gb56 + 1 ≤ w56.heap.size ∧ hi56 ≤ w56.heap.size from f_1.out)
 clear f_1
 have HF56_0 := aA.mk (show Kd.F (Kd.slice 27 k27) w56 (In lo56 hi56) A56_1 r4_1.length r4_1 from f_2.out)
 clear f_2
 have HC56_0 := aA.mk (show r4_1.length ≤ c56_1 from f_3.out)
 clear f_3
 have HS56_0 := aA.mk (show Kd.S (Kd.slice 27 k27) 40 w56 w.heap.size (In lo56 hi56) (.slice A56_1 r4_1.length c56_1) r4_1 from f_4.out)
 clear f_4
 obtain ⟨tp56, et_⟩ : ∃ n_, n_ = w56.heap.size := ⟨_, rfl⟩
 replace HORD := aA.mk (show _ ∧ ((hi40 ≤ gb56 ∧ hi40 ≤ lo56) ∧ (lo56 ≤ hi56) ∧ (gb56 < lo56 ∨ hi56 ≤ gb56) ∧ gb56 + 1 ≤ tp56 ∧ hi56 ≤ tp56) from And.intro HORD.out (by rw [et_]; exact HO_.out))
 clear HO_
 have HT := aA.mk (Nat.le_of_eq et_)
 clear et_
 refine bJ (a' := ?_) ?_ ?_
 rotate_left
 ·simp only [putAll, Act.put, lA, lB, lC]
  rfl
 refine last_ (i := 9) (N := none) #[true, true, true, true, true, true, true, true, true, true, false] rfl rfl (by kernel_rfl) (by decide) (fun K hK => ?_)
 have hzgb1_0_57 := cs1 BK1.out
 have hygb1_0_57 := fs1 BK1.out
 obtain ⟨hzgb2_0_57, hzgb2_1_57, hzgb2_2_57, hzgb2_3_57, hzgb2_4_57⟩ := cs5 BK2.out
 obtain ⟨hygb2_0_57, hygb2_1_57, hygb2_2_57, hygb2_3_57, hygb2_4_57⟩ := fs5 BK2.out
 have hzgb18_0_57 := cs1 BK18.out
 have hygb18_0_57 := fs1 BK18.out
 have hzgb21_0_57 := cs1 BK21.out
 have hygb21_0_57 := fs1 BK21.out
 have hzgb32_0_57 := cs1 BK32.out
 have hygb32_0_57 := fs1 BK32.out
 have hzgb56_0_57 := cs1 BK56.out
 have hygb56_0_57 := fs1 BK56.out
 have hge_ : w.heap.size ≤ gb56 := (by have o_ := HORD.out; omega)
 refine skip_ (w1 := ?_) (by rfl) rfl ?_ ?_
 rotate_left
 ·go_simp
  rfl
 refine hK.out _ _ ?_
 clear hK K
 obtain ⟨w57, hw_⟩ : ∃ z_, z_ = (w56.setCell ⟨gb56, 0, none⟩ (.slice A56_1 r4_1.length c56_1)) := ⟨_, rfl⟩
 (try rw [← hw_])
 have hkp : Kept w56 w57 (fun k_ => k_ = gb56) := (by rw [hw_]; exact Kept.setCell (Kept.refl w56 (fun k_ => k_ = gb56)) (.inl rfl) (.slice A56_1 r4_1.length c56_1))
 have hbn_ : Below w.heap.size w w57 := (by rw [hw_]; exact aC (HB.out) hge_)
 have hbk_ : w57.heap[gb56]? = some (.cells #[.slice A56_1 r4_1.length c56_1] 32 (0, 0)) := (by rw [hw_]; exact bE (cs := #[.slice none 0 0]) (cs' := #[.slice A56_1 r4_1.length c56_1]) (BK56.out) 0 _ rfl)
 have hsz_ : tp56 ≤ w57.heap.size := Nat.le_trans HT.out hkp.1
 replace HF18_0 := aA.mk (Kd.F_kept HF18_0.out hkp (fun k_ h1_ h2_ => by have o_ := HORD.out; unfold In at h1_; omega))
 replace HF40_0 := aA.mk (Kd.F_kept HF40_0.out hkp (fun k_ h1_ h2_ => by have o_ := HORD.out; unfold In at h1_; omega))
 replace HF56_0 := aA.mk (Kd.F_kept HF56_0.out hkp (fun k_ h1_ h2_ => by have o_ := HORD.out; unfold In at h1_; omega))
 replace HS56_0 := aA.mk (Kd.S_kept HS56_0.out hkp (fun k_ h1_ h2_ => by have o_ := HORD.out; unfold In at h1_; omega))
 replace BK1 := aA.mk (blk_kept BK1.out hkp (fun h2_ => by have o_ := HORD.out; omega))
 replace BK2 := aA.mk (blk_kept BK2.out hkp (fun h2_ => by have o_ := HORD.out; omega))
 replace BK18 := aA.mk (blk_kept BK18.out hkp (fun h2_ => by have o_ := HORD.out; omega))
 replace BK21 := aA.mk (blk_kept BK21.out hkp (fun h2_ => by have o_ := HORD.out; omega))
 replace BK32 := aA.mk (blk_kept BK32.out hkp (fun h2_ => by have o_ := HORD.out; omega))
 replace HB := aA.mk (hbn_)
 replace BK56 := aA.mk (hbk_)
 replace HT := aA.mk (hsz_)
 clear hw_ hkp hge_ hbn_ hbk_ hsz_
 refine aW (i := 10) (N := some 15) (v := ?_) (a' := ?_) #[true, true, true, true, true, true, true, true, true, true, true] rfl rfl (by kernel_rfl) (fun _ _ _ h => h) (Or.inl ⟨by rfl, ?_⟩) ?_ ?_
 rotate_left
 ·intro w'
  go_simp
  with_reducible rfl
 rotate_left
 ·simp only [Act.put, lA, lB, lC, aU, aV]
  rfl
 refine done_ (by kernel_rfl) ?_
 have hzgb1_0_57 := cs1 BK1.out
 have hygb1_0_57 := fs1 BK1.out
 obtain ⟨hzgb2_0_57, hzgb2_1_57, hzgb2_2_57, hzgb2_3_57, hzgb2_4_57⟩ := cs5 BK2.out
 obtain ⟨hygb2_0_57, hygb2_1_57, hygb2_2_57, hygb2_3_57, hygb2_4_57⟩ := fs5 BK2.out
 have hzgb18_0_57 := cs1 BK18.out
 have hygb18_0_57 := fs1 BK18.out
 have hzgb21_0_57 := cs1 BK21.out
 have hygb21_0_57 := fs1 BK21.out
 have hzgb32_0_57 := cs1 BK32.out
 have hygb32_0_57 := fs1 BK32.out
 have hzgb56_0_57 := cs1 BK56.out
 have hygb56_0_57 := fs1 BK56.out
 go_wp2_with (first | ((with_reducible refine bD (f := 19) rfl ?_); refine bL (some 89) rfl rfl Try.func19 (by kernel_rfl) rfl #[.agg #[.slice A56_1 r4_1.length c56_1], .agg #[.slice A18_1 r4_1.length c18_1]] rfl (by (try simp only [List.map_toArray, List.map_cons, List.map_nil]); first | done | rfl) ?_; (with_reducible refine (laws_eqNode.calls k6 _ _ r4_1 _ _ r4_1 true _ ?s1 ?s2 ?s3 ?s4 Q6.out).mono ?_); (case s1 => exact (Kd.F_now HF56_0.out)); (case s2 => exact HC56_0.out); (case s3 => exact (Kd.F_now HF18_0.out)); (case s4 => exact HC18_0.out); rintro e_ w58 ⟨rfl, hb⟩; refine ⟨_, rfl, ?_⟩; replace HF40_0 := aA.mk (Kd.bH HF40_0.out hb); replace BK1 := aA.mk (aG BK1.out hb); replace BK2 := aA.mk (aG BK2.out hb); replace BK18 := aA.mk (aG BK18.out hb); replace BK21 := aA.mk (aG BK21.out hb); replace BK32 := aA.mk (aG BK32.out hb); replace BK56 := aA.mk (aG BK56.out hb); replace HB := aA.mk (aT HB.out hb); replace HT := aA.mk (Nat.le_trans HT.out hb.size); (try clear HF18_0); (try clear HC18_0); (try clear HF56_0); (try clear HS56_0); (try clear HC56_0); (try clear hb); have hzgb1_0_58 := cs1 BK1.out; have hygb1_0_58 := fs1 BK1.out; obtain ⟨hzgb2_0_58, hzgb2_1_58, hzgb2_2_58, hzgb2_3_58, hzgb2_4_58⟩ := cs5 BK2.out; obtain ⟨hygb2_0_58, hygb2_1_58, hygb2_2_58, hygb2_3_58, hygb2_4_58⟩ := fs5 BK2.out; have hzgb18_0_58 := cs1 BK18.out; have hygb18_0_58 := fs1 BK18.out; have hzgb21_0_58 := cs1 BK21.out; have hygb21_0_58 := fs1 BK21.out; have hzgb32_0_58 := cs1 BK32.out; have hygb32_0_58 := fs1 BK32.out; have hzgb56_0_58 := cs1 BK56.out; have hygb56_0_58 := fs1 BK56.out) | ((with_reducible refine bD (f := 27) rfl ?_); refine bL (some 98) rfl rfl Try.func27 (by kernel_rfl) rfl #[.agg #[.slice A32_0 r4_1.length c32_0], .int .i64 1] rfl (by (try simp only [List.map_toArray, List.map_cons, List.map_nil]); first | done | rfl) ?_; refine calls_of_args (args' := #[.agg #[.slice A32_0 r9_2.length c32_0], .int .i64 1]) (by simp only [HL40_0.out]) ?_; (with_reducible refine (laws_heldNode.calls k10 _ _ r9_2 1 r9_1 _ ?s1 ?s2 Q10.out).mono ?_); (case s1 => exact (Kd.F_now HF40_0.out)); (case s2 => exact HC40_0.out); rintro e_ w59 ⟨rfl, hb⟩; refine ⟨_, rfl, ?_⟩; replace BK1 := aA.mk (aG BK1.out hb); replace BK2 := aA.mk (aG BK2.out hb); replace BK18 := aA.mk (aG BK18.out hb); replace BK21 := aA.mk (aG BK21.out hb); replace BK32 := aA.mk (aG BK32.out hb); replace BK56 := aA.mk (aG BK56.out hb); replace HB := aA.mk (aT HB.out hb); replace HT := aA.mk (Nat.le_trans HT.out hb.size); (try clear HF40_0); (try clear HC40_0); (try clear HL40_0); (try clear hb); have hzgb1_0_59 := cs1 BK1.out; have hygb1_0_59 := fs1 BK1.out; obtain ⟨hzgb2_0_59, hzgb2_1_59, hzgb2_2_59, hzgb2_3_59, hzgb2_4_59⟩ := cs5 BK2.out; obtain ⟨hygb2_0_59, hygb2_1_59, hygb2_2_59, hygb2_3_59, hygb2_4_59⟩ := fs5 BK2.out; have hzgb18_0_59 := cs1 BK18.out; have hygb18_0_59 := fs1 BK18.out; have hzgb21_0_59 := cs1 BK21.out; have hygb21_0_59 := fs1 BK21.out; have hzgb32_0_59 := cs1 BK32.out; have hygb32_0_59 := fs1 BK32.out; have hzgb56_0_59 := cs1 BK56.out; have hygb56_0_59 := fs1 BK56.out))
 have hres_ := @results_tmp Try.f8 4 (by kernel_rfl)
 refine bodyPost_ret (fn := Try.f8) (P := Try.prog) (hres_ _ _ _) rfl ?_
 exact ⟨rfl, HB.out⟩
set_option maxHeartbeats 2000000 in
theorem laws_FnExactNodePut.calls (A0_0 : Option Addr) (c0_0 : Nat) (l0_0 : List (List (S50))) (a1_0 : Int) (a1_1 : Int) (a1_2 : Int) (a1_3 : Int) (a1_4 : Int) (w : World) (hr0_0 : Kd.C (Kd.slice 50 k50) w A0_0 l0_0.length l0_0) (hc0_0 : l0_0.length ≤ c0_0) (h0 : (l0_0.length ≤ 9223372036854775807 ∧ ∀ y0 ∈ l0_0, (y0.length ≤ 9223372036854775807 ∧ ∀ y1 ∈ y0, ((Lit.int .i64 y1.f0).wf = true ∧ (Lit.int .i64 y1.f1).wf = true ∧ (Lit.int .i64 y1.f2).wf = true ∧ (Lit.int .i64 y1.f3).wf = true ∧ (Lit.int .i64 y1.f4).wf = true)))) (h1 : (Lit.int .i64 a1_0).wf = true ∧ (Lit.int .i64 a1_1).wf = true ∧ (Lit.int .i64 a1_2).wf = true ∧ (Lit.int .i64 a1_3).wf = true ∧ (Lit.int .i64 a1_4).wf = true) :
  Calls Try.prog 8 #[.agg #[.slice A0_0 l0_0.length c0_0], .agg #[.int .i64 a1_0, .int .i64 a1_1, .int .i64 a1_2, .int .i64 a1_3, .int .i64 a1_4]] w fun e w' => e = .returned (.bool true) ∧ Below w.heap.size w w' := by
 have u0_0 := sumKeySS_pos l0_0
 by_cases c0 : 1048576 < sumKeySS l0_0
 ·obtain ⟨_, A1⟩ : ∃ k : Nat, laws_szNode.f k l0_0 1048576 = some (-1) := evGet (szNode_big l0_0 _ ⟨h0.1, fun x hx => (h0.2 x hx).1⟩ (by omega) (by omega) c0)
  exact walkFnExactNodePutbig _ _ _ _ _ _ _ _ _ _ w hr0_0 hc0_0 A1 (by decide)
 obtain ⟨_, A1⟩ : ∃ k : Nat, laws_szNode.f k l0_0 1048576 = some (1048576 - sumKeySS l0_0) := evGet (szNode_fit l0_0 _ ⟨h0.1, fun x hx => (h0.2 x hx).1⟩ (by omega) (by omega) c0)
 have i0 : inKeySS l0_0 := in_of_sumKeySS (by omega)
 have o0_0 : okKeySS (convKeySS l0_0) := ok_of_inKeySS i0
 have q0_0 := cntKeySS_nn o0_0
 have oR0 : okKeySS ((nodePut (convKeySS l0_0) (⟨a1_0, a1_1, a1_2, a1_3, a1_4⟩ : S27)).1) := (okKeySS_nodePut (convKeySS l0_0) (⟨a1_0, a1_1, a1_2, a1_3, a1_4⟩ : S27) (by have b_ := bulk_convKeySS l0_0; unfold inKeySS at i0; omega))
 have qR0 := cntKeySS_nn oR0
 obtain ⟨_, A2⟩ : ∃ k : Nat, laws_toNode.f k l0_0 = some ((convKeySS l0_0)) := evGet (toNode_ev _ (by assumption))
 obtain ⟨_, A3⟩ : ∃ k : Nat, laws_toKey.f a1_0 a1_1 a1_2 a1_3 a1_4 = some (a1_0, a1_1, a1_2, a1_3, a1_4) := ⟨0, rfl⟩
 obtain ⟨_, A4⟩ : ∃ k : Nat, spec_NodePut.f k ((convKeySS l0_0)) a1_0 a1_1 a1_2 a1_3 a1_4 = some (((nodePut (convKeySS l0_0) (⟨a1_0, a1_1, a1_2, a1_3, a1_4⟩ : S27)).1), ((nodePut (convKeySS l0_0) (⟨a1_0, a1_1, a1_2, a1_3, a1_4⟩ : S27)).2)) := evGet (spec_NodePut_ev (convKeySS l0_0) (⟨a1_0, a1_1, a1_2, a1_3, a1_4⟩ : S27) (by have b_ := bulk_convKeySS l0_0; unfold inKeySS at i0; omega))
 obtain ⟨_, A5⟩ : ∃ k : Nat, impl_NodePut.f k ((convKeySS l0_0)) a1_0 a1_1 a1_2 a1_3 a1_4 = some (((nodePut (convKeySS l0_0) (⟨a1_0, a1_1, a1_2, a1_3, a1_4⟩ : S27)).1), ((nodePut (convKeySS l0_0) (⟨a1_0, a1_1, a1_2, a1_3, a1_4⟩ : S27)).2)) := evGet (impl_NodePut_ev (convKeySS l0_0) (⟨a1_0, a1_1, a1_2, a1_3, a1_4⟩ : S27) (by have b_ := bulk_convKeySS l0_0; unfold inKeySS at i0; omega))
 obtain ⟨_, A6⟩ : ∃ k : Nat, laws_eqNode.f k ((nodePut (convKeySS l0_0) (⟨a1_0, a1_1, a1_2, a1_3, a1_4⟩ : S27)).1) ((nodePut (convKeySS l0_0) (⟨a1_0, a1_1, a1_2, a1_3, a1_4⟩ : S27)).1) = some true := evGet (eqNode_ev _ (by assumption))
 obtain ⟨_, A7⟩ : ∃ k : Nat, laws_eqNode.f k ((convKeySS l0_0)) ((convKeySS l0_0)) = some true := evGet (eqNode_ev _ (by assumption))
 obtain ⟨_, A8⟩ : ∃ k : Nat, laws_markKeySS.f ((convKeySS l0_0)) 1 = some ((1 + cntKeySS ((convKeySS l0_0))), (mkKeySS ((convKeySS l0_0)) 1)) := ⟨0, markKeySS_f (by assumption) (by omega) (by omega)⟩
 obtain ⟨_, A9⟩ : ∃ k : Nat, laws_markKeySS.f ((nodePut (convKeySS l0_0) (⟨a1_0, a1_1, a1_2, a1_3, a1_4⟩ : S27)).1) 1 = some ((1 + cntKeySS ((nodePut (convKeySS l0_0) (⟨a1_0, a1_1, a1_2, a1_3, a1_4⟩ : S27)).1)), (mkKeySS ((nodePut (convKeySS l0_0) (⟨a1_0, a1_1, a1_2, a1_3, a1_4⟩ : S27)).1) 1)) := ⟨0, markKeySS_f (by assumption) (by omega) (by omega)⟩
 obtain ⟨_, A10⟩ : ∃ k : Nat, laws_heldNode.f k (mkKeySS ((nodePut (convKeySS l0_0) (⟨a1_0, a1_1, a1_2, a1_3, a1_4⟩ : S27)).1) 1) 1 = some (1 + cntKeySS ((nodePut (convKeySS l0_0) (⟨a1_0, a1_1, a1_2, a1_3, a1_4⟩ : S27)).1)) := evGet (heldNode_ev _ _ (by assumption) (by omega) (by omega))
 exact walkFnExactNodePut _ _ _ _ _ _ _ _ _ _ _ _ _ _ _ _ _ _ _ _ _ _ _ _ _ _ _ _ w hr0_0 hc0_0 A1 A2 A3 A4 A5 A6 A7 A8 A9 A10 (by omega) (by omega) (by omega)
end Go.Proofs.Ythpfihklkcnckaa.Law

namespace Go.Proofs.Ythpfihklkcnckaa.Op
open Go.RowKit Go.ChangeShapes Go.WideShapes Go.Proofs.YthpfihklkcnckaaW.PrintWords
def Opens {α : Type} (P : Program) (t : TypeId) (d : Kd α) (g : α → Prop) : Prop :=
 ∀ {H : Type} {enc : TypeId × Value → H} {w : World} {base : Nat} {spare : Nat → Bool} {held : Bool} {fuel : Nat} {cs : List Value} {x : DataW H × List MemPlace},
  DataW.trod enc P w base spare held fuel t cs = some x → ∃ a, d.K w a cs ∧ g a
theorem opens_int {P : Program} {t : TypeId} {k : IntKind} (ht : P.underlying t = some (.int k)) : Opens P t (Kd.int k) (fun n => (Lit.int k n).wf = true) := by
 intro H enc w base spare held fuel cs x h
 obtain ⟨n, rfl, _, hw⟩ := DataW.trod_int ht h
 exact ⟨n, rfl, hw⟩
theorem opens_slice {α : Type} {P : Program} {t e : TypeId} {d : Kd α} {g : α → Prop} (q : Nat) (ht : P.underlying t = some (.slice e)) (hd : Opens P e d g) (hc : P.cellsOf e = d.sz) :
  Opens P t (Kd.slice q d) (fun xs => xs.length ≤ 9223372036854775807 ∧ ∀ x ∈ xs, g x) := by
 intro H enc w base spare held fuel cs x h
 rcases DataW.trod_slice ht h with ⟨rfl, _⟩ | ⟨a, len, cap, elems, rest, n, _, rfl, _, _, hl, hm, hlen, hel, _, _⟩
 ·exact ⟨[], ⟨none, 0, rfl, Nat.le_refl _, rfl, Nat.zero_le _, fun h => by cases h⟩, by simp, by simp⟩
 ·have each : ∀ i : Fin len, ∃ y : α, g y ∧ ∃ c : List Value, c.length = d.sz ∧ d.K w y c ∧ ∀ j u, c[j]? = some u → w.cell? (a.add (i.val * d.sz + j)) = some u := by
   intro i
   have h1 := hel i.val i.isLt
   rw [List.getElem?_eq_getElem (by omega), Option.bind_eq_some_iff] at h1
   obtain ⟨c, hcs, hy⟩ := h1
   obtain ⟨_, hcl, hcell⟩ := World.cells?_some hcs
   obtain ⟨y, hK, hg⟩ := hd hy
   refine ⟨y, hg, c, by rw [hcl, hc], hK, fun j u hu => ?_⟩
   have hj : j < c.length := (List.getElem?_eq_some_iff.1 hu).1
   have h2 := hcell j (by omega)
   rw [hu] at h2
   rw [← h2, hc]
   congr 1
   exact (Addr.add_add a _ _).symm
  obtain ⟨f, hf⟩ := Classical.axiomOfChoice each
  refine ⟨List.ofFn f, ⟨some a, cap, by rw [List.length_ofFn], by rw [List.length_ofFn]; exact hl, by rw [List.length_ofFn], by rw [List.length_ofFn]; unfold maxLen at hm; omega, fun _ => ⟨a, rfl, fun j p hp => ?_⟩⟩, by rw [List.length_ofFn]; unfold maxLen at hm; omega, fun x hx => ?_⟩
  ·rw [List.getElem?_ofFn] at hp
   split at hp
   ·rename_i hj
    obtain rfl := Option.some.inj hp
    obtain ⟨_, c, h1, h2, h3⟩ := hf ⟨j, hj⟩
    exact ⟨c, h1, h2, h3⟩
   ·cases hp
  ·obtain ⟨i, rfl⟩ := List.mem_ofFn.1 hx
   exact (hf i).1
/-- The fields from one offset on. -/
def OpensL {α : Type} (P : Program) (fs : List Field) (off : Nat) (d : Kd α) (g : α → Prop) : Prop :=
 ∀ {H : Type} {enc : TypeId × Value → H} {w : World} {base : Nat} {spare : Nat → Bool} {held : Bool} {fuel : Nat} {cs : List Value},
  (∀ f ∈ fs, ∃ x, DataW.trod enc P w base spare held fuel f.type ((cs.drop f.offset).take (P.cellsOf f.type)) = some x) → ∃ a, d.K w a ((cs.drop off).take d.sz) ∧ g a
theorem opensL_one {α : Type} {P : Program} {f : Field} {d : Kd α} {g : α → Prop} {off : Nat} (ho : f.offset = off) (hd : Opens P f.type d g) (hc : P.cellsOf f.type = d.sz) : OpensL P [f] off d g := by
 intro H enc w base spare held fuel cs h
 obtain ⟨x, hx⟩ := h f (by simp)
 rw [hc, ho] at hx
 exact hd hx
theorem opensL_cons {α β : Type} {P : Program} {f : Field} {fs : List Field} {d : Kd α} {g : α → Prop} {d' : Kd β} {g' : β → Prop} {off : Nat} (ho : f.offset = off) (hd : Opens P f.type d g) (hc : P.cellsOf f.type = d.sz)
  (hr : OpensL P fs (off + d.sz) d' g') : OpensL P (f :: fs) off (Kd.pair d d') (fun x => g x.1 ∧ g' x.2) := by
 intro H enc w base spare held fuel cs h
 obtain ⟨a, ha, hg⟩ := opensL_one ho hd hc (fun f' hf' => h f' (by simp at hf'; simp [hf']))
 obtain ⟨b, hb, hg'⟩ := hr (fun f' hf' => h f' (List.mem_cons_of_mem _ hf'))
 refine ⟨(a, b), ⟨(cs.drop off).take d.sz, (cs.drop (off + d.sz)).take d'.sz, ?_, ha, hb⟩, hg, hg'⟩
 show (cs.drop off).take (d.sz + d'.sz) = _
 rw [List.take_add, List.drop_drop]
theorem opens_struct {α : Type} {P : Program} {t : TypeId} {fs : Array Field} {d : Kd α} {g : α → Prop} (ht : P.underlying t = some (.struct fs)) (hc : P.cellsOf t = d.sz) (hL : OpensL P fs.toList 0 d g) : Opens P t d g := by
 intro H enc w base spare held fuel cs x h
 obtain ⟨xs, n, _, _, hl, hxl, hf⟩ := DataW.trod_struct ht h
 have := hL (enc := enc) (w := w) (base := base) (spare := spare) (held := held) (fuel := n) (cs := cs) (fun f hmem => by
  obtain ⟨i, hi⟩ := List.getElem?_of_mem hmem
  have hi' : fs[i]? = some f := by simpa using hi
  have hlt : i < fs.size := (Array.getElem?_eq_some_iff.1 hi').1
  exact ⟨xs[i]'(by omega), by rw [hf i f hi', List.getElem?_eq_getElem]⟩)
 rw [List.drop_zero, ← hc, ← hl, List.take_length] at this
 exact this
theorem opens_iso {α β : Type} {P : Program} {t : TypeId} {d : Kd α} {g : α → Prop} (f : β → α) (e : α → β) (he : ∀ a, f (e a) = a) (h : Opens P t d g) : Opens P t (Kd.iso d f) (fun b => g (f b)) := by
 intro H enc w base spare held fuel cs x hx
 obtain ⟨a, ha, hg⟩ := h hx
 exact ⟨e a, by show d.K w (f (e a)) cs; rw [he]; exact ha, by show g (f (e a)); rw [he]; exact hg⟩
theorem opens_mono {α : Type} {P : Program} {t : TypeId} {d : Kd α} {g g' : α → Prop} (h : Opens P t d g) (hg : ∀ a, g a → g' a) : Opens P t d g' := by
 intro H enc w base spare held fuel cs x hx
 obtain ⟨a, ha, hga⟩ := h hx
 exact ⟨a, ha, hg a hga⟩
end Go.Proofs.Ythpfihklkcnckaa.Op

namespace Go.Proofs.Ythpfihklkcnckaa.rowFnExactNodePut
open Go.ChangeShapes Go.WideShapes Go.ChangeAt Go.RowKit
open Go.ChangeMaps (open_string shut_string)
open Go.Proofs.YthpfihklkcnckaaW.PrintWords Go.Proofs.Ythpfihklkcnckaa.Op Go.Proofs.Ythpfihklkcnckaa.PFnExactNodePut Go.Proofs.Ythpfihklkcnckaa.Law
set_option linter.unusedVariables false
set_option linter.unusedSimpArgs false
theorem own : ownKnob Try.prog.godebug = none := by kernel_rfl
theorem laidOut : laidOutB Try.prog = true := by kernel_rfl
theorem opensElKey : Opens Try.prog 50 k50 (fun x => ((Lit.int .i64 x.f0).wf = true ∧ (Lit.int .i64 x.f1).wf = true ∧ (Lit.int .i64 x.f2).wf = true ∧ (Lit.int .i64 x.f3).wf = true ∧ (Lit.int .i64 x.f4).wf = true)) := opens_mono (opens_iso (fun x : S50 => (x.f0, x.f1, x.f2, x.f3, x.f4)) (fun y => ⟨y.1, y.2.1, y.2.2.1, y.2.2.2.1, y.2.2.2.2⟩) (fun _ => rfl) (opens_struct Try.underlying50 (by kernel_rfl) (opensL_cons rfl (opens_int Try.underlying3) (by kernel_rfl) (opensL_cons rfl (opens_int Try.underlying3) (by kernel_rfl) (opensL_cons rfl (opens_int Try.underlying3) (by kernel_rfl) (opensL_cons rfl (opens_int Try.underlying3) (by kernel_rfl) (opensL_one rfl (opens_int Try.underlying3) (by kernel_rfl)))))))) (fun _ h => h)
theorem opensNode : Opens Try.prog 24 (Kd.slice 37 (Kd.slice 50 (k50))) (fun x => (x.length ≤ 9223372036854775807 ∧ ∀ y0 ∈ x, (y0.length ≤ 9223372036854775807 ∧ ∀ y1 ∈ y0, ((Lit.int .i64 y1.f0).wf = true ∧ (Lit.int .i64 y1.f1).wf = true ∧ (Lit.int .i64 y1.f2).wf = true ∧ (Lit.int .i64 y1.f3).wf = true ∧ (Lit.int .i64 y1.f4).wf = true)))) := opens_struct Try.underlying24 (by kernel_rfl) (opensL_one rfl ((opens_slice 37 Try.underlying22 ((opens_slice 50 Try.underlying37 (opensElKey) (by kernel_rfl))) (by kernel_rfl))) (by kernel_rfl))
theorem opensKey : Opens Try.prog 50 (Kd.pair (Kd.int .i64) (Kd.pair (Kd.int .i64) (Kd.pair (Kd.int .i64) (Kd.pair (Kd.int .i64) (Kd.int .i64))))) (fun x => (Lit.int .i64 x.1).wf = true ∧ (Lit.int .i64 x.2.1).wf = true ∧ (Lit.int .i64 x.2.2.1).wf = true ∧ (Lit.int .i64 x.2.2.2.1).wf = true ∧ (Lit.int .i64 x.2.2.2.2).wf = true) := opens_struct Try.underlying50 (by kernel_rfl) (opensL_cons rfl (opens_int Try.underlying3) (by kernel_rfl) (opensL_cons rfl (opens_int Try.underlying3) (by kernel_rfl) (opensL_cons rfl (opens_int Try.underlying3) (by kernel_rfl) (opensL_cons rfl (opens_int Try.underlying3) (by kernel_rfl) (opensL_one rfl (opens_int Try.underlying3) (by kernel_rfl))))))
set_option maxRecDepth 100000 in
theorem lifted (os : Os) (started : os.Started) (H : Type) (enc : TypeId × Value → H) :
  ReturnsInHanded {} Try.checked os 8 .any (Rows.fnExactNodePutSpec.pre6 enc Try.prog Try.f8 Rows.fnExactNodePutRow.domain false) (Rows.fnExactNodePutSpec.post enc Try.prog Try.f8 false true false false) := by
 refine returnsInHanded_of_change_sized (C := Try.checked) own started (by kernel_rfl) Try.func8
  (ChangeSpec.witness6 (enc := enc) (C := Try.checked) false ⟨#[], #[.agg #[.slice none 0 0], .agg #[.int .i64 0, .int .i64 0, .int .i64 0, .int .i64 0, .int .i64 0]], []⟩ 8 (by kernel_rfl) (by kernel_rfl) (by kernel_rfl) (by kernel_rfl)) ?_
 intro W base args ds gs before hval0 hW hcnd hsz0 _
 have hval : ∀ (j : Nat) t v, Try.f8.params[j]? = some t → args[j]? = some v → Value.okWide Try.prog W .any base t v := hval0
 have hW' := hW
 obtain ⟨p, q, hA0, hV, rfl, hfz, hnd⟩ := hW
 have hA : DataW.TrodAll enc Try.prog W 0 (fun _ => true) true Try.f8.params.toList args.toList ds p := hA0
 rw [Try.params8] at hA hval
 obtain ⟨v0, vs0, d0, ds0, p0, q0, hargs, rfl, rfl, h0, r0⟩ := trodAll_cons hA
 obtain ⟨v1, vs1, d1, ds1, p1, q1, rfl, rfl, rfl, h1, r1⟩ := trodAll_cons r0
 obtain ⟨rfl, rfl, rfl⟩ := trodAll_nil r1
 obtain rfl : args = #[v0, v1] := by cases args; simp_all
 obtain ⟨rfl, rfl⟩ := trodVars_none hV
 have k0 := h0
 have lt0 : ∀ x ∈ p0, x.block < W.heap.size := by obtain ⟨m, hm⟩ := k0; exact DataW.trod_lt m _ _ _ hm
 obtain ⟨fuel0, hf0⟩ := h0
 obtain ⟨cs0, rfl, _⟩ := okWide_struct Try.underlying24 (hval 0 24 v0 rfl rfl)
 obtain ⟨x0, hK0, g0⟩ := opensNode hf0
 obtain ⟨l0_0, hx0⟩ : ∃ y, y = x0 := ⟨_, rfl⟩
 subst hx0
 obtain ⟨A0_0, c0_0, e0, hc0_0, hC0_0⟩ := hK0
 obtain rfl : cs0 = #[.slice A0_0 l0_0.length c0_0] := by apply Array.toList_inj.1; exact e0
 have k1 := h1
 have lt1 : ∀ x ∈ p1, x.block < W.heap.size := by obtain ⟨m, hm⟩ := k1; exact DataW.trod_lt m _ _ _ hm
 obtain ⟨fuel1, hf1⟩ := h1
 obtain ⟨cs1, rfl, _⟩ := okWide_struct Try.underlying50 (hval 1 50 v1 rfl rfl)
 obtain ⟨x1, hK1, g1⟩ := opensKey hf1
 obtain ⟨a1_0, a1_1, a1_2, a1_3, a1_4⟩ := x1
 obtain ⟨_, _, e1, rfl, ⟨_, _, rfl, rfl, ⟨_, _, rfl, rfl, ⟨_, _, rfl, rfl, rfl⟩⟩⟩⟩ := hK1
 obtain rfl : cs1 = #[.int .i64 a1_0, .int .i64 a1_1, .int .i64 a1_2, .int .i64 a1_3, .int .i64 a1_4] := by apply Array.toList_inj.1; exact e1
 clear hA0 hval0 hsz0
 refine (laws_FnExactNodePut.calls _ _ _ _ _ _ _ _ W hC0_0 hc0_0 g0 g1).mono fun e W' ⟨he, bel0⟩ => ?_
 have bel : Below W.heap.size W W' := by first | exact bel0 | exact bel0.below
 subst he
 exact ⟨_, rfl, _, _, _, [], _, [], hW', trodAll_mk1 (shut_bool Try.underlying4 _), (trodAll_cons_mk (Below.trod laidOut (by kernel_rfl) (lE (by kernel_rfl)) k0 bel lt0) (trodAll_cons_mk (Below.trod laidOut (by kernel_rfl) (lE (by kernel_rfl)) k1 bel lt1) trodAll_mk0)), rfl, bel.frame _, fun h => by cases h⟩
theorem over : Rows.fnExactNodePutRow.holds Try.pinned (OpenSpec.ofChange Rows.fnExactNodePutSpec) :=
 OpenClaim.holds_of_wide 8 Try.f8 rfl rfl rfl rfl rfl rfl rfl ⟨rfl, rfl, rfl, rfl, rfl⟩ rfl rfl rfl rfl rfl (by kernel_rfl) Try.func8 (by kernel_rfl)
  (lE (by kernel_rfl)) (by unfold Func.isWrapper; first | (rw [if_pos (by decide +kernel)]; kernel_rfl) | (rw [if_neg (by decide +kernel)]; exact ⟨rfl, rfl⟩))
  (fun os started H enc _ => lifted os started H enc)
theorem proved : Rows.FnExactNodePutSaid := over
#print axioms proved
end Go.Proofs.Ythpfihklkcnckaa.rowFnExactNodePut
namespace Go.Proofs.Ythpfihklkcnckaa
theorem fnExactNodePut_holds : Rows.FnExactNodePutSaid := rowFnExactNodePut.proved
end Go.Proofs.Ythpfihklkcnckaa
