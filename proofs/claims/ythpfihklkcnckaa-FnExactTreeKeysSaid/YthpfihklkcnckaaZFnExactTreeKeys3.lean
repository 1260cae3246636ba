/- The law: the functions that it reaches, each with the proof that the machine's call comes to its answer, what they answer, and the law's row; each theorem says its conditions itself. -/
import Derived.Test.YthpfihklkcnckaaZFnExactTreeKeys2
import Derived.ChangeArms
import Derived.ChangeShapes
import Derived.WideShapes
import Derived.Test.YthpfihklkcnckaaRows
import Derived.WalkKit
import Derived.ProofKit
import Derived.OpenShut
import Derived.ShutString
import Derived.ChangeOld
import Derived.Below
import Derived.SizedLaws
namespace Go.Proofs.Ythpfihklkcnckaa.Pure
open Go.RowKit Go.Proofs.Ythpfihklkcnckaa.PFnExactTreeKeys Go.Proofs.Ythpfihklkcnckaa.Core Go.Proofs.YthpfihklkcnckaaW.PrintWords Go.Proofs.YthpfihklkcnckaaW.PrintLast Go.Proofs.YthpfihklkcnckaaW.PrintMore
set_option linter.unusedSimpArgs false
set_option linter.unusedVariables false
def toK (x : S50) : S27 := ⟨x.f0, x.f1, x.f2, x.f3, x.f4⟩
def okKeyS (l : List S27) : Prop := l.length ≤ 4194304
def cntKeyS (l : List S27) : Int := 5 * l.length
theorem cntKeyS_nn {l : List S27} (h : okKeyS l) : 0 ≤ cntKeyS l ∧ cntKeyS l ≤ 1073741824 := by unfold okKeyS at h; unfold cntKeyS; omega
def inKeyS (l : List S50) : Prop := l.length ≤ 1048576
def sumKeyS (l : List S50) : Int := l.length
theorem sumKeyS_nn (l : List S50) : 0 ≤ sumKeyS l := by unfold sumKeyS; omega
theorem in_of_sumKeyS {l : List S50} (h : sumKeyS l ≤ 1048576) : inKeyS l := by unfold sumKeyS at h; unfold inKeyS; omega
def goodK (x : S50) : Prop := (Lit.int .i64 x.f0).wf = true ∧ (Lit.int .i64 x.f1).wf = true ∧ (Lit.int .i64 x.f2).wf = true ∧ (Lit.int .i64 x.f3).wf = true ∧ (Lit.int .i64 x.f4).wf = true
theorem eqKey_refl (x : S27) : laws_eqKey.f x.f0 x.f1 x.f2 x.f3 x.f4 x.f0 x.f1 x.f2 x.f3 x.f4 = some true := by simp [laws_eqKey.f]
theorem eqKeyS_ev (l : List S27) (ho : okKeyS l) : Ev (fun k => laws_eqKeyS.f k l l) true := by
 have h : l.length ≤ 4194304 := ho
 obtain ⟨K, hk⟩ := evRange0 (σ := Unit) l.length (fun k _ i => laws_eqKeyS.l0 k l l i) (fun _ _ => True) (fun _ _ => true) () trivial
  (by
   intro i _ hi _
   refine .inl ⟨(), trivial, rfl, 0, 1, fun k _ => ?_⟩
   simp only [laws_eqKeyS.l0]
   rw [if_pos (by omega), if_pos (by omega), if_pos (by omega), eqKey_refl, w64s i (by omega)]
   rfl)
  (by
   intro _ _
   refine ⟨0, 1, fun k _ => ?_⟩
   simp only [laws_eqKeyS.l0]
   rw [if_neg (by omega)])
 refine ⟨K, fun k hk' => ?_⟩
 simp only [laws_eqKeyS.f]
 rw [if_pos trivial]
 exact hk k hk'
def mkK (a : Int) (i : Nat) : S27 := ⟨a + 5 * i, a + 5 * i + 1, a + 5 * i + 2, a + 5 * i + 3, a + 5 * i + 4⟩
def mkKeyS (l : List S27) (a : Int) : List S27 := (List.range l.length).map (mkK a)
theorem mkKeyS_length (l : List S27) (a : Int) : (mkKeyS l a).length = l.length := by simp [mkKeyS]
theorem markKeyS_ev (l : List S27) (a : Int) (ho : okKeyS l) (h0 : 0 ≤ a) (h1 : a ≤ 1099511627776) : Ev (fun k => laws_markKeyS.f k l a) (a + cntKeyS l, mkKeyS l a) := by
 have h : l.length ≤ 4194304 := ho
 obtain ⟨K, hk⟩ := evRange0 (σ := List S27 × Int) l.length (fun k s i => laws_markKeyS.l0 k s.1 s.2 i) (fun i s => s = (fill (mkK a) l i, a + 5 * i)) (fun _ _ => (a + cntKeyS l, mkKeyS l a)) (l, a) (by simp [fill_zero])
  (by
   intro i s hi hs
   subst hs
   refine .inl ⟨_, rfl, rfl, 0, 1, fun k _ => ?_⟩
   have hl := fill_length (mkK a) l i (by omega)
   simp only [laws_markKeyS.l0]
   rw [if_pos (by omega), if_pos (by omega)]
   simp only [Option.bind_some]
   rw [w64 (x := a + 5 * (i : Int) + 1) (by omega) (by omega), w64 (x := a + 5 * (i : Int) + 1 + 1) (by omega) (by omega), w64 (x := a + 5 * (i : Int) + 1 + 1 + 1) (by omega) (by omega), w64 (x := a + 5 * (i : Int) + 1 + 1 + 1 + 1) (by omega) (by omega), w64 (x := a + 5 * (i : Int) + 1 + 1 + 1 + 1 + 1) (by omega) (by omega), w64s i (by omega), Int.toNat_natCast]
   have hr : ∀ (m : List S27) (v : S27), i < m.length → rd_T27 (m.set i v) (i : Int) = v := fun m v hm => by simp [rd_T27, hm]
   rw [hr _ _ (by omega), hr _ _ (by simp; omega), hr _ _ (by simp; omega), hr _ _ (by simp; omega)]
   simp only [List.set_set]
   rw [fill_set (mkK a) l i hi (by simp only [mkK]; congr 1 <;> omega)]
   congr 1
   push_cast
   omega)
  (by
   intro s hs
   subst hs
   refine ⟨0, 1, fun k _ => ?_⟩
   have hl := fill_length (mkK a) l l.length (by omega)
   simp only [laws_markKeyS.l0]
   rw [if_neg (by omega), fill_all]
   rfl)
 exact ⟨K, fun k hk' => hk k hk'⟩
theorem heldKeyS_ev (l : List S27) (a : Int) (ho : okKeyS l) (h0 : 0 ≤ a) (h1 : a ≤ 1099511627776) : Ev (fun k => laws_heldKeyS.f k (mkKeyS l a) a) (a + cntKeyS l) := by
 have h : l.length ≤ 4194304 := ho
 have hl := mkKeyS_length l a
 obtain ⟨K, hk⟩ := evRange0 (σ := Int) l.length (fun k s i => laws_heldKeyS.l0 k (mkKeyS l a) s i) (fun i s => s = a + 5 * i) (fun _ _ => a + cntKeyS l) a (by simp)
  (by
   intro i s hi hs
   subst hs
   refine .inl ⟨_, rfl, rfl, 0, 1, fun k _ => ?_⟩
   have hr : rd_T27 (mkKeyS l a) (i : Int) = mkK a i := by
    unfold rd_T27 mkKeyS
    rw [Int.toNat_natCast, range_getD _ _ _ _ hi]
   simp only [laws_heldKeyS.l0]
   rw [if_pos (by omega), if_pos (by omega), hr]
   rw [w64 (x := a + 5 * (i : Int) + 1) (by omega) (by omega), w64 (x := a + 5 * (i : Int) + 1 + 1) (by omega) (by omega), w64 (x := a + 5 * (i : Int) + 1 + 1 + 1) (by omega) (by omega), w64 (x := a + 5 * (i : Int) + 1 + 1 + 1 + 1) (by omega) (by omega), w64 (x := a + 5 * (i : Int) + 1 + 1 + 1 + 1 + 1) (by omega) (by omega), w64s i (by omega)]
   rw [if_pos (show (mkK a i).f0 = a + 5 * (i : Int) from rfl), if_pos (show (mkK a i).f1 = a + 5 * (i : Int) + 1 from rfl), if_pos (show (mkK a i).f2 = a + 5 * (i : Int) + 1 + 1 by simp only [mkK]; omega), if_pos (show (mkK a i).f3 = a + 5 * (i : Int) + 1 + 1 + 1 by simp only [mkK]; omega), if_pos (show (mkK a i).f4 = a + 5 * (i : Int) + 1 + 1 + 1 + 1 by simp only [mkK]; omega)]
   congr 1
   push_cast
   omega)
  (by
   intro s hs
   subst hs
   refine ⟨0, 1, fun k _ => ?_⟩
   simp only [laws_heldKeyS.l0]
   rw [if_neg (by omega)]
   rfl)
 exact ⟨K, fun k hk' => hk k hk'⟩
def okIntS (l : List Int) : Prop := l.length ≤ 4194304
def cntIntS (l : List Int) : Int := l.length
theorem cntIntS_nn {l : List Int} (h : okIntS l) : 0 ≤ cntIntS l ∧ cntIntS l ≤ 1073741824 := by unfold okIntS at h; unfold cntIntS; omega
def inIntS (l : List Int) : Prop := l.length ≤ 1048576
theorem ok_of_inIntS {l : List Int} (h : inIntS l) : okIntS l := by unfold inIntS at h; unfold okIntS; omega
def sumIntS (l : List Int) : Int := l.length
theorem sumIntS_nn (l : List Int) : 0 ≤ sumIntS l := by unfold sumIntS; omega
theorem in_of_sumIntS {l : List Int} (h : sumIntS l ≤ 1048576) : inIntS l := by unfold sumIntS at h; unfold inIntS; omega
theorem eqIntS_ev (l : List Int) (ho : okIntS l) : Ev (fun k => laws_eqIntS.f k l l) true := by
 have h : l.length ≤ 4194304 := ho
 obtain ⟨K, hk⟩ := evRange0 (σ := Unit) l.length (fun k _ i => laws_eqIntS.l0 k l l i) (fun _ _ => True) (fun _ _ => true) () trivial
  (by
   intro i _ hi _
   refine .inl ⟨(), trivial, rfl, 0, 1, fun k _ => ?_⟩
   simp only [laws_eqIntS.l0]
   rw [if_pos (by omega), if_pos (by omega), if_pos (by omega), if_pos trivial, w64s i (by omega)])
  (by
   intro _ _
   refine ⟨0, 1, fun k _ => ?_⟩
   simp only [laws_eqIntS.l0]
   rw [if_neg (by omega)])
 refine ⟨K, fun k hk' => ?_⟩
 simp only [laws_eqIntS.f]
 rw [if_pos trivial]
 exact hk k hk'
theorem szKeyS_f (l : List S50) (a : Int) (hl : l.length ≤ 9223372036854775807) (h0 : 0 ≤ a) (h1 : a ≤ 1048576) : laws_szKeyS.f l a = some (if a < sumKeyS l then -1 else a - sumKeyS l) := by
 unfold laws_szKeyS.f sumKeyS
 rw [w64 (by omega) (by omega)]
 by_cases h : a < (l.length : Int)
 ·rw [if_pos (by omega), if_pos h]
 ·rw [if_neg (by omega), if_neg h]
theorem szKeyS_big (l : List S50) (a : Int) (hl : l.length ≤ 9223372036854775807) (h0 : 0 ≤ a) (h1 : a ≤ 1048576) (h : a < sumKeyS l) : Ev (fun _ => laws_szKeyS.f l a) (-1) := evOf fun _ => by rw [szKeyS_f l a hl h0 h1, if_pos h]
theorem szKeyS_fit (l : List S50) (a : Int) (hl : l.length ≤ 9223372036854775807) (h0 : 0 ≤ a) (h1 : a ≤ 1048576) (h : ¬ a < sumKeyS l) : Ev (fun _ => laws_szKeyS.f l a) (a - sumKeyS l) := evOf fun _ => by rw [szKeyS_f l a hl h0 h1, if_neg h]
def convKeySS (l : List (List S50)) : List (List S27) := l.map fun x => x.map toK
def sumKeySS : List (List S50) → Int
 | [] => 0
 | x :: xs => 1 + sumKeyS x + sumKeySS xs
theorem sumKeySS_nn : ∀ l : List (List S50), (l.length : Int) ≤ sumKeySS l
 | [] => by simp [sumKeySS]
 | x :: xs => by
  have := sumKeySS_nn xs
  have := sumKeyS_nn x
  simp only [sumKeySS, List.length_cons]
  omega
theorem sumKeySS_at : ∀ (l : List (List S50)) (i : Nat), i < l.length → 1 + sumKeyS (l.getD i []) + sumKeySS (l.drop (i + 1)) = sumKeySS (l.drop i) := by
 intro l i hi
 rw [drop_getD l i [] hi]
 rfl
theorem sumKeySS_drop : ∀ (l : List (List S50)) (i : Nat), sumKeySS (l.drop i) ≤ sumKeySS l
 | [], i => by simp
 | x :: xs, 0 => by simp
 | x :: xs, i + 1 => by
  have := sumKeySS_drop xs i
  have := sumKeyS_nn x
  simp only [List.drop_succ_cons, sumKeySS]
  omega
def inKeySS (l : List (List S50)) : Prop := sumKeySS l ≤ 1048576
theorem in_of_sumKeySS {l : List (List S50)} (h : sumKeySS l ≤ 1048576) : inKeySS l := h
theorem inKeySS_len {l : List (List S50)} (h : inKeySS l) : l.length ≤ 1048576 := by have := sumKeySS_nn l; unfold inKeySS at h; omega
theorem inKeySS_at {l : List (List S50)} (h : inKeySS l) (i : Nat) (hi : i < l.length) : inKeyS (l.getD i []) := by
 have h1 := sumKeySS_at l i hi
 have h2 := sumKeySS_drop l i
 have h3 := sumKeySS_nn (l.drop (i + 1))
 unfold inKeySS at h
 exact in_of_sumKeyS (by omega)
/-- What the impl's side holds, all in all. -/
def bulkKeySS : List (List S27) → Nat
 | [] => 0
 | x :: xs => 1 + x.length + bulkKeySS xs
def okKeySS (l : List (List S27)) : Prop := bulkKeySS l ≤ 4194304
theorem bulkKeySS_len : ∀ l : List (List S27), l.length ≤ bulkKeySS l
 | [] => by simp [bulkKeySS]
 | x :: xs => by have := bulkKeySS_len xs; simp only [bulkKeySS, List.length_cons]; omega
theorem bulkKeySS_at : ∀ (l : List (List S27)) (i : Nat), i < l.length → (l.getD i []).length ≤ bulkKeySS l
 | x :: xs, 0, _ => by simp only [bulkKeySS, List.getD_cons_zero]; omega
 | x :: xs, i + 1, h => by
  have := bulkKeySS_at xs i (by simpa using h)
  simp only [bulkKeySS, List.getD_cons_succ]; omega
theorem okKeySS_at {l : List (List S27)} (h : okKeySS l) (i : Nat) (hi : i < l.length) : okKeyS (l.getD i []) := by
 have h1 := bulkKeySS_at l i hi
 unfold okKeySS at h
 show (l.getD i []).length ≤ 4194304
 omega
theorem okKeySS_len {l : List (List S27)} (h : okKeySS l) : l.length ≤ 4194304 := by have := bulkKeySS_len l; unfold okKeySS at h; omega
theorem bulk_convKeySS : ∀ l : List (List S50), (bulkKeySS (convKeySS l) : Int) = sumKeySS l
 | [] => rfl
 | x :: xs => by
  have h1 := bulk_convKeySS xs
  have h2 : (((x.map toK).length : Nat) : Int) = sumKeyS x := by rw [List.length_map]; rfl
  (try simp only at h2)
  simp only [convKeySS] at h1
  simp only [convKeySS, List.map_cons, bulkKeySS, sumKeySS]
  omega
theorem eqKeySS_ev (l : List (List S27)) (ho : okKeySS l) : Ev (fun k => laws_eqKeySS.f k l l) true := by
 have h := okKeySS_len ho
 obtain ⟨K, hk⟩ := evRange0 (σ := Unit) l.length (fun k _ i => laws_eqKeySS.l0 k l l i) (fun _ _ => True) (fun _ _ => true) () trivial
  (by
   intro i _ hi _
   have hr : rd_L2 l (i : Int) = l.getD i [] := by simp [rd_L2]
   obtain ⟨K, e⟩ := eqKeyS_ev (l.getD i []) (okKeySS_at ho i hi)
   refine .inl ⟨(), trivial, rfl, K, 1, fun k hk => ?_⟩
   have e1 := e k hk
   simp only at e1
   simp only [laws_eqKeySS.l0, hr, e1, Option.bind_some]
   rw [if_pos (by omega), if_pos (by omega), if_pos (by omega), if_pos trivial, w64s i (by omega)])
  (by
   intro _ _
   refine ⟨0, 1, fun k _ => ?_⟩
   simp only [laws_eqKeySS.l0]
   rw [if_neg (by omega)])
 refine ⟨K, fun k hk' => ?_⟩
 simp only [laws_eqKeySS.f]
 rw [if_pos trivial]
 exact hk k hk'
theorem eqNode_ev (l : List (List S27)) (ho : okKeySS l) : Ev (fun k => laws_eqNode.f k l l) true := by
 obtain ⟨K, e⟩ := eqKeySS_ev l ho
 refine ⟨K, fun k hk => ?_⟩
 have e1 := e k hk
 simp only at e1
 simp only [laws_eqNode.f, e1, Option.bind_some]
 rfl
def goodKeySS (l : List (List S50)) : Prop := l.length ≤ 9223372036854775807 ∧ ∀ x ∈ l, x.length ≤ 9223372036854775807
theorem szKeySS_l0 (l : List (List S50)) (hg : goodKeySS l) : ∀ (d i : Nat) (s : Int), l.length - i = d → i ≤ l.length → 0 ≤ s → s ≤ 1048576 → l.length ≤ 1048576 → Ev (fun k => laws_szKeySS.l0 k l s (i : Int)) (if s < sumKeySS (l.drop i) - ((l.length : Int) - i) then -1 else s - (sumKeySS (l.drop i) - ((l.length : Int) - i))) := by
 intro d
 induction d with
 | zero =>
  intro i s hd hi h0 h1 hl
  obtain rfl : i = l.length := by omega
  refine evSucc ⟨0, 1, fun k _ => ?_⟩
  simp only [laws_szKeySS.l0]
  rw [if_neg (by omega), List.drop_length]
  rw [show sumKeySS [] = 0 from rfl, if_neg (by omega)]
  congr 1; omega
 | succ d ih =>
  intro i s hd hi h0 h1 hl
  have hlt : i < l.length := by omega
  have hs := sumKeySS_at l i hlt
  have hn := sumKeySS_nn (l.drop (i + 1))
  rw [List.length_drop] at hn
  have hr : rd_L6 l (i : Int) = l.getD i [] := by simp [rd_L6]
  have hgx := hg.2 _ (getD_mem l i [] hlt)
  generalize l.getD i [] = y at *
  have hy := sumKeyS_nn y
  by_cases c : s < sumKeyS y
  ·obtain ⟨K, e⟩ := szKeyS_big y s hgx h0 h1 c
   refine evSucc ⟨K, 1, fun k hk => ?_⟩
   have e1 := e k hk
   simp only at e1
   simp only [laws_szKeySS.l0, hr, e1, Option.bind_some]
   rw [if_pos (by omega), if_pos (by omega), if_pos (by decide), if_pos (by omega)]
  ·obtain ⟨K, e⟩ := szKeyS_fit y s hgx h0 h1 c
   obtain ⟨K2, e2⟩ := ih (i + 1) (s - sumKeyS y) (by omega) (by omega) (by omega) (by omega) hl
   refine evSucc ⟨K + K2, 1, fun k hk => ?_⟩
   have e1 := e k (by omega)
   have e3 := e2 k (by omega)
   simp only at e1 e3
   simp only [laws_szKeySS.l0, hr, e1, Option.bind_some]
   rw [if_pos (by omega), if_pos (by omega), if_neg (by omega), w64s i (by omega), e3]
   have hc : ((i + 1 : Nat) : Int) = (i : Int) + 1 := by omega
   rw [hc]
   by_cases c2 : s - sumKeyS y < sumKeySS (l.drop (i + 1)) - ((l.length : Int) - ((i : Int) + 1))
   ·rw [if_pos c2, if_pos (by omega)]
   ·rw [if_neg c2, if_neg (by omega)]; congr 1; omega
theorem szKeySS_big (l : List (List S50)) (a : Int) (hg : goodKeySS l) (h0 : 0 ≤ a) (h1 : a ≤ 1048576) (h : a < sumKeySS l) : Ev (fun k => laws_szKeySS.f k l a) (-1) := by
 have hn := hg.1
 by_cases c : a < l.length
 ·refine evOf fun k => ?_
  simp only [laws_szKeySS.f]
  rw [w64 (by omega) (by omega), if_pos (by omega)]
 ·obtain ⟨K, e⟩ := szKeySS_l0 l hg _ 0 (a - l.length) rfl (Nat.zero_le _) (by omega) (by omega) (by omega)
  refine ⟨K, fun k hk => ?_⟩
  have e1 := e k hk
  simp only [laws_szKeySS.f]
  rw [w64 (by omega) (by omega), if_neg (by omega)]
  simp only [List.drop_zero, Int.natCast_zero] at e1
  rw [if_pos (by omega)] at e1
  exact e1
theorem szKeySS_fit (l : List (List S50)) (a : Int) (hg : goodKeySS l) (h0 : 0 ≤ a) (h1 : a ≤ 1048576) (h : ¬ a < sumKeySS l) : Ev (fun k => laws_szKeySS.f k l a) (a - sumKeySS l) := by
 have hn := sumKeySS_nn l
 obtain ⟨K, e⟩ := szKeySS_l0 l hg _ 0 (a - l.length) rfl (Nat.zero_le _) (by omega) (by omega) (by omega)
 refine ⟨K, fun k hk => ?_⟩
 have e1 := e k hk
 simp only [laws_szKeySS.f]
 rw [w64 (by omega) (by omega), if_neg (by omega)]
 simp only [List.drop_zero, Int.natCast_zero] at e1
 rw [if_neg (by omega)] at e1
 rw [show a - sumKeySS l = a - ↑l.length - (sumKeySS l - (↑l.length - 0)) by omega]
 exact e1
theorem szNode_big (l : List (List S50)) (a : Int) (hg : goodKeySS l) (h0 : 0 ≤ a) (h1 : a ≤ 1048576) (h : a < sumKeySS l) : Ev (fun k => laws_szNode.f k l a) (-1) := by
 obtain ⟨K, e⟩ := szKeySS_big l a hg h0 h1 h
 refine ⟨K, fun k hk => ?_⟩
 have e1 := e k hk
 simp only at e1
 simp only [laws_szNode.f, e1, Option.bind_some]
 rfl
theorem szNode_fit (l : List (List S50)) (a : Int) (hg : goodKeySS l) (h0 : 0 ≤ a) (h1 : a ≤ 1048576) (h : ¬ a < sumKeySS l) : Ev (fun k => laws_szNode.f k l a) (a - sumKeySS l) := by
 obtain ⟨K, e⟩ := szKeySS_fit l a hg h0 h1 h
 refine ⟨K, fun k hk => ?_⟩
 have e1 := e k hk
 simp only at e1
 simp only [laws_szNode.f, e1, Option.bind_some]
 rw [if_neg (by omega)]
def convNodeS (l : List (S24)) : List (S32) := l.map fun x => (⟨convKeySS x.f0⟩ : S32)
def sumNodeS : List (S24) → Int
 | [] => 0
 | x :: xs => 1 + sumKeySS x.f0 + sumNodeS xs
theorem sumNodeS_nn : ∀ l : List (S24), (l.length : Int) ≤ sumNodeS l
 | [] => by simp [sumNodeS]
 | x :: xs => by
  have := sumNodeS_nn xs
  have := sumKeySS_nn x.f0
  simp only [sumNodeS, List.length_cons]
  omega
theorem sumNodeS_pos (l : List (S24)) : 0 ≤ sumNodeS l := by have := sumNodeS_nn l; omega
theorem sumNodeS_at : ∀ (l : List (S24)) (i : Nat), i < l.length → 1 + sumKeySS (l.getD i z24).f0 + sumNodeS (l.drop (i + 1)) = sumNodeS (l.drop i) := by
 intro l i hi
 rw [drop_getD l i z24 hi]
 rfl
theorem sumNodeS_drop : ∀ (l : List (S24)) (i : Nat), sumNodeS (l.drop i) ≤ sumNodeS l
 | [], i => by simp
 | x :: xs, 0 => by simp
 | x :: xs, i + 1 => by
  have := sumNodeS_drop xs i
  have := sumKeySS_nn x.f0
  simp only [List.drop_succ_cons, sumNodeS]
  omega
def inNodeS (l : List (S24)) : Prop := sumNodeS l ≤ 1048576
theorem in_of_sumNodeS {l : List (S24)} (h : sumNodeS l ≤ 1048576) : inNodeS l := h
theorem inNodeS_len {l : List (S24)} (h : inNodeS l) : l.length ≤ 1048576 := by have := sumNodeS_nn l; unfold inNodeS at h; omega
theorem inNodeS_at {l : List (S24)} (h : inNodeS l) (i : Nat) (hi : i < l.length) : inKeySS (l.getD i z24).f0 := by
 have h1 := sumNodeS_at l i hi
 have h2 := sumNodeS_drop l i
 have h3 := sumNodeS_nn (l.drop (i + 1))
 unfold inNodeS at h
 exact in_of_sumKeySS (by omega)
/-- What the impl's side holds, all in all. -/
def bulkNodeS : List (S32) → Nat
 | [] => 0
 | x :: xs => 1 + bulkKeySS x.f0 + bulkNodeS xs
def okNodeS (l : List (S32)) : Prop := bulkNodeS l ≤ 4194304
theorem bulkNodeS_len : ∀ l : List (S32), l.length ≤ bulkNodeS l
 | [] => by simp [bulkNodeS]
 | x :: xs => by have := bulkNodeS_len xs; simp only [bulkNodeS, List.length_cons]; omega
theorem bulkNodeS_at : ∀ (l : List (S32)) (i : Nat), i < l.length → bulkKeySS (l.getD i z32).f0 ≤ bulkNodeS l
 | x :: xs, 0, _ => by simp only [bulkNodeS, List.getD_cons_zero]; omega
 | x :: xs, i + 1, h => by
  have := bulkNodeS_at xs i (by simpa using h)
  simp only [bulkNodeS, List.getD_cons_succ]; omega
theorem okNodeS_at {l : List (S32)} (h : okNodeS l) (i : Nat) (hi : i < l.length) : okKeySS (l.getD i z32).f0 := by
 have h1 := bulkNodeS_at l i hi
 unfold okNodeS at h
 show bulkKeySS (l.getD i z32).f0 ≤ 4194304
 omega
theorem okNodeS_len {l : List (S32)} (h : okNodeS l) : l.length ≤ 4194304 := by have := bulkNodeS_len l; unfold okNodeS at h; omega
theorem bulk_convNodeS : ∀ l : List (S24), (bulkNodeS (convNodeS l) : Int) = sumNodeS l
 | [] => rfl
 | x :: xs => by
  have h1 := bulk_convNodeS xs
  have h2 : ((bulkKeySS ((⟨convKeySS x.f0⟩ : S32)).f0 : Nat) : Int) = sumKeySS x.f0 := bulk_convKeySS x.f0
  (try simp only at h2)
  simp only [convNodeS] at h1
  simp only [convNodeS, List.map_cons, bulkNodeS, sumNodeS]
  omega
theorem ok_of_inNodeS {l : List (S24)} (h : inNodeS l) : okNodeS (convNodeS l) := by
 have := bulk_convNodeS l
 unfold inNodeS at h
 unfold okNodeS
 omega
theorem eqNodeS_ev (l : List (S32)) (ho : okNodeS l) : Ev (fun k => laws_eqNodeS.f k l l) true := by
 have h := okNodeS_len ho
 obtain ⟨K, hk⟩ := evRange0 (σ := Unit) l.length (fun k _ i => laws_eqNodeS.l0 k l l i) (fun _ _ => True) (fun _ _ => true) () trivial
  (by
   intro i _ hi _
   have hr : rd_T32 l (i : Int) = l.getD i z32 := by simp [rd_T32]
   obtain ⟨K, e⟩ := eqNode_ev (l.getD i z32).f0 (okNodeS_at ho i hi)
   refine .inl ⟨(), trivial, rfl, K, 1, fun k hk => ?_⟩
   have e1 := e k hk
   simp only at e1
   simp only [laws_eqNodeS.l0, hr, e1, Option.bind_some]
   rw [if_pos (by omega), if_pos (by omega), if_pos (by omega), if_pos trivial, w64s i (by omega)])
  (by
   intro _ _
   refine ⟨0, 1, fun k _ => ?_⟩
   simp only [laws_eqNodeS.l0]
   rw [if_neg (by omega)])
 refine ⟨K, fun k hk' => ?_⟩
 simp only [laws_eqNodeS.f]
 rw [if_pos trivial]
 exact hk k hk'
theorem eqTree_ev (l : List Int) (n : List S32) (h1 : okIntS l) (h2 : okNodeS n) : Ev (fun k => laws_eqTree.f k l n l n) true := by
 obtain ⟨K, e⟩ := eqIntS_ev l h1
 obtain ⟨K2, e2⟩ := eqNodeS_ev n h2
 refine ⟨K + K2, fun k hk => ?_⟩
 have a1 := e k (by omega)
 have a2 := e2 k (by omega)
 simp only at a1 a2
 simp only [laws_eqTree.f, a1, a2, Option.bind_some]
 rfl
def mkIntS (l : List Int) (a : Int) : List Int := (List.range l.length).map fun (i : Nat) => a + (i : Int)
theorem markIntS_ev (l : List Int) (a : Int) (ho : okIntS l) (h0 : 0 ≤ a) (h1 : a ≤ 1099511627776) : Ev (fun k => laws_markIntS.f k l a) (a + cntIntS l, mkIntS l a) := by
 have h : l.length ≤ 4194304 := ho
 obtain ⟨K, hk⟩ := evRange0 (σ := List Int × Int) l.length (fun k s i => laws_markIntS.l0 k s.1 s.2 i) (fun i s => s = (fill (fun i => a + (i : Int)) l i, a + i)) (fun _ _ => (a + cntIntS l, mkIntS l a)) (l, a) (by simp [fill_zero])
  (by
   intro i s hi hs
   subst hs
   refine .inl ⟨_, rfl, rfl, 0, 1, fun k _ => ?_⟩
   have hl := fill_length (fun i => a + (i : Int)) l i (by omega)
   simp only [laws_markIntS.l0]
   rw [if_pos (by omega), if_pos (by omega), w64 (x := a + (i : Int) + 1) (by omega) (by omega), w64s i (by omega), Int.toNat_natCast, fill_set _ l i hi rfl]
   congr 1
   push_cast
   omega)
  (by
   intro s hs
   subst hs
   refine ⟨0, 1, fun k _ => ?_⟩
   have hl := fill_length (fun i => a + (i : Int)) l l.length (by omega)
   simp only [laws_markIntS.l0]
   rw [if_neg (by omega), fill_all]
   rfl)
 exact ⟨K, fun k hk' => hk k hk'⟩
theorem szIntS_f (l : List Int) (a : Int) (hl : l.length ≤ 9223372036854775807) (h0 : 0 ≤ a) (h1 : a ≤ 1048576) : laws_szIntS.f l a = some (if a < sumIntS l then -1 else a - sumIntS l) := by
 unfold laws_szIntS.f sumIntS
 rw [w64 (by omega) (by omega)]
 by_cases h : a < (l.length : Int)
 ·rw [if_pos (by omega), if_pos h]
 ·rw [if_neg (by omega), if_neg h]
def goodNodeS (l : List (S24)) : Prop := l.length ≤ 9223372036854775807 ∧ ∀ x ∈ l, goodKeySS x.f0
theorem szNodeS_l0 (l : List (S24)) (hg : goodNodeS l) : ∀ (d i : Nat) (s : Int), l.length - i = d → i ≤ l.length → 0 ≤ s → s ≤ 1048576 → l.length ≤ 1048576 → Ev (fun k => laws_szNodeS.l0 k l s (i : Int)) (if s < sumNodeS (l.drop i) - ((l.length : Int) - i) then -1 else s - (sumNodeS (l.drop i) - ((l.length : Int) - i))) := by
 intro d
 induction d with
 | zero =>
  intro i s hd hi h0 h1 hl
  obtain rfl : i = l.length := by omega
  refine evSucc ⟨0, 1, fun k _ => ?_⟩
  simp only [laws_szNodeS.l0]
  rw [if_neg (by omega), List.drop_length]
  rw [show sumNodeS [] = 0 from rfl, if_neg (by omega)]
  congr 1; omega
 | succ d ih =>
  intro i s hd hi h0 h1 hl
  have hlt : i < l.length := by omega
  have hs := sumNodeS_at l i hlt
  have hn := sumNodeS_nn (l.drop (i + 1))
  rw [List.length_drop] at hn
  have hr : rd_T24 l (i : Int) = l.getD i z24 := by simp [rd_T24]
  have hgx := hg.2 _ (getD_mem l i z24 hlt)
  generalize l.getD i z24 = y at *
  have hy := sumKeySS_nn y.f0
  by_cases c : s < sumKeySS y.f0
  ·obtain ⟨K, e⟩ := szNode_big y.f0 s hgx h0 h1 c
   refine evSucc ⟨K, 1, fun k hk => ?_⟩
   have e1 := e k hk
   simp only at e1
   simp only [laws_szNodeS.l0, hr, e1, Option.bind_some]
   rw [if_pos (by omega), if_pos (by omega), if_pos (by decide), if_pos (by omega)]
  ·obtain ⟨K, e⟩ := szNode_fit y.f0 s hgx h0 h1 c
   obtain ⟨K2, e2⟩ := ih (i + 1) (s - sumKeySS y.f0) (by omega) (by omega) (by omega) (by omega) hl
   refine evSucc ⟨K + K2, 1, fun k hk => ?_⟩
   have e1 := e k (by omega)
   have e3 := e2 k (by omega)
   simp only at e1 e3
   simp only [laws_szNodeS.l0, hr, e1, Option.bind_some]
   rw [if_pos (by omega), if_pos (by omega), if_neg (by omega), w64s i (by omega), e3]
   have hc : ((i + 1 : Nat) : Int) = (i : Int) + 1 := by omega
   rw [hc]
   by_cases c2 : s - sumKeySS y.f0 < sumNodeS (l.drop (i + 1)) - ((l.length : Int) - ((i : Int) + 1))
   ·rw [if_pos c2, if_pos (by omega)]
   ·rw [if_neg c2, if_neg (by omega)]; congr 1; omega
theorem szNodeS_big (l : List (S24)) (a : Int) (hg : goodNodeS l) (h0 : 0 ≤ a) (h1 : a ≤ 1048576) (h : a < sumNodeS l) : Ev (fun k => laws_szNodeS.f k l a) (-1) := by
 have hn := hg.1
 by_cases c : a < l.length
 ·refine evOf fun k => ?_
  simp only [laws_szNodeS.f]
  rw [w64 (by omega) (by omega), if_pos (by omega)]
 ·obtain ⟨K, e⟩ := szNodeS_l0 l hg _ 0 (a - l.length) rfl (Nat.zero_le _) (by omega) (by omega) (by omega)
  refine ⟨K, fun k hk => ?_⟩
  have e1 := e k hk
  simp only [laws_szNodeS.f]
  rw [w64 (by omega) (by omega), if_neg (by omega)]
  simp only [List.drop_zero, Int.natCast_zero] at e1
  rw [if_pos (by omega)] at e1
  exact e1
theorem szNodeS_fit (l : List (S24)) (a : Int) (hg : goodNodeS l) (h0 : 0 ≤ a) (h1 : a ≤ 1048576) (h : ¬ a < sumNodeS l) : Ev (fun k => laws_szNodeS.f k l a) (a - sumNodeS l) := by
 have hn := sumNodeS_nn l
 obtain ⟨K, e⟩ := szNodeS_l0 l hg _ 0 (a - l.length) rfl (Nat.zero_le _) (by omega) (by omega) (by omega)
 refine ⟨K, fun k hk => ?_⟩
 have e1 := e k hk
 simp only [laws_szNodeS.f]
 rw [w64 (by omega) (by omega), if_neg (by omega)]
 simp only [List.drop_zero, Int.natCast_zero] at e1
 rw [if_neg (by omega)] at e1
 rw [show a - sumNodeS l = a - ↑l.length - (sumNodeS l - (↑l.length - 0)) by omega]
 exact e1
def sumTree (l : List Int) (n : List S24) : Int := sumIntS l + sumNodeS n
theorem szTree_big (l : List Int) (n : List S24) (a : Int) (hl : l.length ≤ 9223372036854775807) (hg : goodNodeS n) (h0 : 0 ≤ a) (h1 : a ≤ 1048576) (h : a < sumTree l n) : Ev (fun k => laws_szTree.f k l n a) (-1) := by
 have u := sumIntS_nn l
 unfold sumTree at h
 by_cases c : a < sumIntS l
 ·refine evOf fun k => ?_
  simp only [laws_szTree.f, szIntS_f l a hl h0 h1, if_pos c, Option.bind_some]
  rfl
 ·obtain ⟨K, e⟩ := szNodeS_big n (a - sumIntS l) hg (by omega) (by omega) (by omega)
  refine ⟨K, fun k hk => ?_⟩
  have e1 := e k hk
  simp only at e1
  simp only [laws_szTree.f, szIntS_f l a hl h0 h1, if_neg c, Option.bind_some, e1]
  rw [if_neg (by omega)]
  rfl
theorem szTree_fit (l : List Int) (n : List S24) (a : Int) (hl : l.length ≤ 9223372036854775807) (hg : goodNodeS n) (h0 : 0 ≤ a) (h1 : a ≤ 1048576) (h : ¬ a < sumTree l n) : Ev (fun k => laws_szTree.f k l n a) (a - sumTree l n) := by
 have u := sumIntS_nn l
 have u2 := sumNodeS_pos n
 unfold sumTree at h
 obtain ⟨K, e⟩ := szNodeS_fit n (a - sumIntS l) hg (by omega) (by omega) (by omega)
 refine ⟨K, fun k hk => ?_⟩
 have e1 := e k hk
 simp only at e1
 simp only [laws_szTree.f, szIntS_f l a hl h0 h1, if_neg (show ¬ a < sumIntS l by omega), Option.bind_some, e1]
 rw [if_neg (by omega), if_neg (by omega)]
 unfold sumTree
 congr 1
 omega
theorem toIntS_ev (l : List Int) (hi : inIntS l) : Ev (fun k => laws_toIntS.f k l) l := by
 have h : l.length ≤ 1048576 := hi
 have hl : ∀ i, i ≤ l.length → (fill (fun i => l.getD i 0) (List.replicate l.length (0 : Int)) i).length = l.length := fun i hi => by rw [fill_length _ _ _ (by simpa using hi)]; simp
 obtain ⟨K, hk⟩ := evRange0 (σ := List Int) l.length (fun k s i => laws_toIntS.l0 k l s i) (fun i s => s = fill (fun i => l.getD i 0) (List.replicate l.length (0 : Int)) i) (fun _ _ => l) (List.replicate l.length (0 : Int)) (fill_zero _ _).symm
  (by
   intro i s hi hs
   subst hs
   refine .inl ⟨_, rfl, rfl, 0, 1, fun k _ => ?_⟩
   have h1 := hl i (by omega)
   simp only [laws_toIntS.l0]
   rw [if_pos (by omega), if_pos (by omega), if_pos (by omega), w64s i (by omega), Int.toNat_natCast, fill_set _ _ _ (by simpa using hi) (rd_nat l i)])
  (by
   intro s hs
   subst hs
   refine ⟨0, 1, fun k _ => ?_⟩
   simp only [laws_toIntS.l0]
   rw [if_neg (by omega)]
   have := fill_all (fun i => l.getD i 0) (List.replicate l.length (0 : Int))
   rw [List.length_replicate] at this
   rw [this, range_id])
 refine ⟨K, fun k hk' => ?_⟩
 simp only [laws_toIntS.f]
 rw [if_pos (by omega), if_pos (by omega)]
 have e := hk k hk'
 simpa using e
theorem toKeyS_ev (l : List S50) (hi : inKeyS l) : Ev (fun k => laws_toKeyS.f k l) (l.map toK) := by
 have h : l.length ≤ 1048576 := hi
 have hl : ∀ i, i ≤ l.length → (fill (fun i => toK (l.getD i z50)) (List.replicate l.length z27) i).length = l.length := fun i hi => by rw [fill_length _ _ _ (by simpa using hi)]; simp
 obtain ⟨K, hk⟩ := evRange0 (σ := List S27) l.length (fun k s i => laws_toKeyS.l0 k l s i) (fun i s => s = fill (fun i => toK (l.getD i z50)) (List.replicate l.length z27) i) (fun _ _ => l.map toK) (List.replicate l.length z27) (fill_zero _ _).symm
  (by
   intro i s hi hs
   subst hs
   refine .inl ⟨_, rfl, rfl, 0, 1, fun k _ => ?_⟩
   have h1 := hl i (by omega)
   simp only [laws_toKeyS.l0]
   rw [if_pos (by omega), if_pos (by omega)]
   simp only [laws_toKey.f, Option.bind_some]
   rw [if_pos (by omega), w64s i (by omega), Int.toNat_natCast, fill_set _ _ _ (by simpa using hi)]
   simp [toK, rd_T50])
  (by
   intro s hs
   subst hs
   refine ⟨0, 1, fun k _ => ?_⟩
   simp only [laws_toKeyS.l0]
   rw [if_neg (by omega)]
   have := fill_all (fun i => toK (l.getD i z50)) (List.replicate l.length z27)
   rw [List.length_replicate] at this
   rw [this, range_map])
 refine ⟨K, fun k hk' => ?_⟩
 simp only [laws_toKeyS.f]
 rw [if_pos (by omega), if_pos (by omega)]
 have e := hk k hk'
 simpa using e
theorem toKeySS_ev (l : List (List S50)) (hin : inKeySS l) : Ev (fun k => laws_toKeySS.f k l) (convKeySS l) := by
 have h := inKeySS_len hin
 have hl : ∀ i, i ≤ l.length → (fill (fun i => (l.getD i []).map toK) (List.replicate l.length ([] : List S27)) i).length = l.length := fun i hi => by rw [fill_length _ _ _ (by simpa using hi)]; simp
 obtain ⟨K, hk⟩ := evRange0 (σ := List (List S27)) l.length (fun k s i => laws_toKeySS.l0 k l s i) (fun i s => s = fill (fun i => (l.getD i []).map toK) (List.replicate l.length ([] : List S27)) i) (fun _ _ => convKeySS l) (List.replicate l.length ([] : List S27)) (fill_zero _ _).symm
  (by
   intro i s hi hs
   subst hs
   have h1 := hl i (by omega)
   have hr : rd_L6 l (i : Int) = l.getD i [] := by simp [rd_L6]
   obtain ⟨K, e⟩ := toKeyS_ev (l.getD i []) (inKeySS_at hin i hi)
   refine .inl ⟨_, rfl, rfl, K, 1, fun k hk => ?_⟩
   have e1 := e k hk
   simp only at e1
   simp only [laws_toKeySS.l0, hr, e1, Option.bind_some]
   rw [if_pos (by omega), if_pos (by omega), if_pos (by omega), w64s i (by omega), Int.toNat_natCast, fill_set _ _ _ (by simpa using hi) rfl])
  (by
   intro s hs
   subst hs
   refine ⟨0, 1, fun k _ => ?_⟩
   simp only [laws_toKeySS.l0]
   rw [if_neg (by omega)]
   have := fill_all (fun i => (l.getD i []).map toK) (List.replicate l.length ([] : List S27))
   rw [List.length_replicate] at this
   rw [this, range_map (fun x => x.map toK) l []]
   rfl)
 refine ⟨K, fun k hk' => ?_⟩
 simp only [laws_toKeySS.f]
 rw [if_pos (by omega), if_pos (by omega)]
 have e := hk k hk'
 simp only [Int.toNat_natCast]
 exact e
theorem toNode_ev (l : List (List S50)) (hin : inKeySS l) : Ev (fun k => laws_toNode.f k l) (convKeySS l) := by
 obtain ⟨K, e⟩ := toKeySS_ev l hin
 refine ⟨K, fun k hk => ?_⟩
 have e1 := e k hk
 simp only at e1
 simp only [laws_toNode.f, e1, Option.bind_some]
theorem toNodeS_ev (l : List (S24)) (hin : inNodeS l) : Ev (fun k => laws_toNodeS.f k l) (convNodeS l) := by
 have h := inNodeS_len hin
 have hl : ∀ i, i ≤ l.length → (fill (fun i => (⟨convKeySS (l.getD i z24).f0⟩ : S32)) (List.replicate l.length (z32 : S32)) i).length = l.length := fun i hi => by rw [fill_length _ _ _ (by simpa using hi)]; simp
 obtain ⟨K, hk⟩ := evRange0 (σ := List (S32)) l.length (fun k s i => laws_toNodeS.l0 k l s i) (fun i s => s = fill (fun i => (⟨convKeySS (l.getD i z24).f0⟩ : S32)) (List.replicate l.length (z32 : S32)) i) (fun _ _ => convNodeS l) (List.replicate l.length (z32 : S32)) (fill_zero _ _).symm
  (by
   intro i s hi hs
   subst hs
   have h1 := hl i (by omega)
   have hr : rd_T24 l (i : Int) = l.getD i z24 := by simp [rd_T24]
   obtain ⟨K, e⟩ := toNode_ev (l.getD i z24).f0 (inNodeS_at hin i hi)
   refine .inl ⟨_, rfl, rfl, K, 1, fun k hk => ?_⟩
   have e1 := e k hk
   simp only at e1
   simp only [laws_toNodeS.l0, hr, e1, Option.bind_some]
   rw [if_pos (by omega), if_pos (by omega), if_pos (by omega), w64s i (by omega), Int.toNat_natCast, fill_set _ _ _ (by simpa using hi) rfl])
  (by
   intro s hs
   subst hs
   refine ⟨0, 1, fun k _ => ?_⟩
   simp only [laws_toNodeS.l0]
   rw [if_neg (by omega)]
   have := fill_all (fun i => (⟨convKeySS (l.getD i z24).f0⟩ : S32)) (List.replicate l.length (z32 : S32))
   rw [List.length_replicate] at this
   rw [this, range_map (fun x => (⟨convKeySS x.f0⟩ : S32)) l z24]
   rfl)
 refine ⟨K, fun k hk' => ?_⟩
 simp only [laws_toNodeS.f]
 rw [if_pos (by omega), if_pos (by omega)]
 have e := hk k hk'
 simp only [Int.toNat_natCast]
 exact e
theorem toTree_ev (l : List Int) (n : List S24) (h1 : inIntS l) (h2 : inNodeS n) : Ev (fun k => laws_toTree.f k l n) (l, convNodeS n) := by
 obtain ⟨K, e⟩ := toIntS_ev l h1
 obtain ⟨K2, e2⟩ := toNodeS_ev n h2
 refine ⟨K + K2, fun k hk => ?_⟩
 have a1 := e k (by omega)
 have a2 := e2 k (by omega)
 simp only at a1 a2
 simp only [laws_toTree.f, a1, a2, Option.bind_some]
def less (a b : S27) : Bool := decide (a.f0 < b.f0 ∨ a.f0 = b.f0 ∧ a.f1 < b.f1)
def same (a b : S27) : Bool := decide (a.f0 = b.f0 ∧ a.f1 = b.f1)
def putGo (k : S27) : List S27 → Bool → List S27
 | [], p => if p then [] else [k]
 | x :: xs, p => (if p || less x k then [] else [k]) ++ ((if same x k then [] else [x]) ++ putGo k xs (p || !less x k))
def setPut (l : List S27) (k : S27) : List S27 := putGo k l false
def mergeSets (a b : List S27) : List S27 := b.foldl setPut a
def dropNone (l : List S27) : List S27 := l.filter fun x => x.f2 != 0
theorem putGo_length (k : S27) : ∀ (l : List S27) (p : Bool), (putGo k l p).length ≤ l.length + 1
 | [], p => by cases p <;> simp [putGo]
 | x :: xs, p => by
  have ih := putGo_length k xs
  have ih1 : p = true → (putGo k xs true).length ≤ xs.length := fun _ => by
   clear ih
   induction xs with
   | nil => simp [putGo]
   | cons y ys ih => simp only [putGo, Bool.true_or, if_true, List.nil_append, List.length_append, List.length_cons]; split <;> simp <;> omega
  simp only [putGo, List.length_append, List.length_cons]
  cases p with
  | true => simp only [Bool.true_or, if_true, List.length_nil]; have := ih1 rfl; split <;> simp <;> omega
  | false =>
   cases hx : less x k with
   | true => simp only [Bool.false_or, if_true, Bool.not_true, List.length_nil]; have := ih false; split <;> simp <;> omega
   | false =>
    simp only [Bool.false_or, Bool.not_false, if_false, Bool.false_eq_true, List.length_cons, List.length_nil]
    have h2 : (putGo k xs true).length ≤ xs.length := by
     clear ih ih1
     induction xs with
     | nil => simp [putGo]
     | cons y ys ih => simp only [putGo, Bool.true_or, if_true, List.nil_append, List.length_append, List.length_cons]; split <;> simp <;> omega
    split <;> simp <;> omega
theorem setPut_length (l : List S27) (k : S27) : (setPut l k).length ≤ l.length + 1 := putGo_length k l false
theorem mergeSets_length (a b : List S27) : (mergeSets a b).length ≤ a.length + b.length := by
 unfold mergeSets
 induction b generalizing a with
 | nil => simp
 | cons x xs ih => simp only [List.foldl_cons, List.length_cons]; have := ih (setPut a x); have := setPut_length a x; omega
theorem spec_LessKey_f (a b : S27) : spec_LessKey.f a.f0 a.f1 a.f2 a.f3 a.f4 b.f0 b.f1 b.f2 b.f3 b.f4 = some (less a b) := by
 unfold spec_LessKey.f less
 split
 ·simp [*]
 ·simp [*]
theorem spec_SameSpot_f (a b : S27) : spec_SameSpot.f a.f0 a.f1 a.f2 a.f3 a.f4 b.f0 b.f1 b.f2 b.f3 b.f4 = some (same a b) := by
 unfold spec_SameSpot.f same
 split
 ·simp only [*, true_and, Option.some.injEq]; rw [Bool.eq_iff_iff]; simp
 ·simp [*]
theorem spec_SetPut_ev (l : List S27) (x : S27) (h : l.length ≤ 4194304) : Ev (fun k => spec_SetPut.f k l x.f0 x.f1 x.f2 x.f3 x.f4) (setPut l x) := by
 obtain ⟨K, hk⟩ := evRange0 (σ := List S27 × Bool) l.length (fun k s i => spec_SetPut.l0 k l s.1 s.2 i x.f0 x.f1 x.f2 x.f3 x.f4) (fun i s => s.1.length ≤ 2 * i) (fun i s => s.1 ++ putGo x (l.drop i) s.2) ([], false) (by simp)
  (by
   intro i s hi hs
   obtain ⟨out, put⟩ := s
   simp only at hs
   have hd := drop_getD l i z27 hi
   have hr : rd_T27 l (i : Int) = l.getD i z27 := by simp [rd_T27]
   refine .inl ⟨(out ++ (if put || less (l.getD i z27) x then [] else [x]) ++ (if same (l.getD i z27) x then [] else [l.getD i z27]), put || !less (l.getD i z27) x), ?_, ?_, 0, 2, fun k _ => ?_⟩
   ·simp only [List.length_append]; split <;> split <;> simp <;> omega
   ·simp only [hd, putGo, List.append_assoc]
   ·generalize hy : l.getD i z27 = y at *
    have hw := w64s i (by omega)
    have c1 : (i : Int) < (l.length : Int) := by omega
    have c2 : 0 ≤ (i : Int) := by omega
    simp only [spec_SetPut.l0, hr, spec_LessKey_f, Option.bind_some, spec_SetPut.j1, if_pos c1, if_pos c2]
    cases put <;> cases hl : less y x <;> cases hq : same y x <;>
     simp only [Bool.not_true, Bool.not_false, if_true, if_false, Bool.false_eq_true, reduceCtorEq, spec_SameSpot_f, Option.bind_some, hq, hw, Bool.or_true, Bool.true_or, Bool.or_false, Bool.false_or, List.append_nil, List.append_assoc] <;>
     (repeat rw [if_pos (by first | omega | (simp only [List.length_append, List.length_cons, List.length_nil]; omega))]) <;> rfl)
  (by
   intro s hs
   obtain ⟨out, put⟩ := s
   simp only at hs
   refine ⟨0, 1, fun k _ => ?_⟩
   simp only [spec_SetPut.l0]
   rw [if_neg (by omega)]
   cases put
   ·rw [if_neg (by simp), if_pos (by omega)]; simp [putGo]
   ·rw [if_pos rfl]; simp [putGo])
 exact ⟨K, fun k hk' => hk k hk'⟩
theorem spec_MergeSets_ev (a b : List S27) (h : a.length + b.length ≤ 4194304) : Ev (fun k => spec_MergeSets.f k a b) (mergeSets a b) := by
 obtain ⟨K, hk⟩ := evRange0 (σ := List S27) b.length (fun k s i => spec_MergeSets.l0 k b s i) (fun i s => s.length ≤ a.length + i) (fun i s => mergeSets s (b.drop i)) a (by simp)
  (by
   intro i s hi hs
   have hd := drop_getD b i z27 hi
   have hr : rd_T27 b (i : Int) = b.getD i z27 := by simp [rd_T27]
   obtain ⟨K, e⟩ := spec_SetPut_ev s (b.getD i z27) (by omega)
   have hlen := setPut_length s (b.getD i z27)
   refine .inl ⟨setPut s (b.getD i z27), by omega, by simp only [hd, mergeSets, List.foldl_cons], K, 1, fun k hk => ?_⟩
   simp only [spec_MergeSets.l0, hr, e k hk, Option.bind_some]
   rw [if_pos (by omega), if_pos (by omega), w64s i (by omega)])
  (by
   intro s hs
   refine ⟨0, 1, fun k _ => ?_⟩
   simp only [spec_MergeSets.l0]
   rw [if_neg (by omega)]
   simp [mergeSets])
 refine ⟨K, fun k hk' => ?_⟩
 simp only [spec_MergeSets.f, Option.bind_some, List.length_nil, List.nil_append]
 rw [if_pos (by omega)]
 exact hk k hk'
theorem spec_Drop_ev (l : List S27) (h : l.length ≤ 4194304) : Ev (fun k => spec_Drop.f k l) (dropNone l) := by
 obtain ⟨K, hk⟩ := evRange0 (σ := List S27) l.length (fun k s i => spec_Drop.l0 k l s i) (fun i s => s.length ≤ i) (fun i s => s ++ dropNone (l.drop i)) [] (by simp)
  (by
   intro i s hi hs
   have hd := drop_getD l i z27 hi
   have hr : rd_T27 l (i : Int) = l.getD i z27 := by simp [rd_T27]
   generalize l.getD i z27 = y at *
   by_cases h1 : y.f2 = 0
   ·refine .inl ⟨s, by omega, ?_, 0, 1, fun k _ => ?_⟩
    ·rw [hd, dropNone, dropNone, List.filter_cons_of_neg (by simp [h1])]
    ·simp only [spec_Drop.l0, hr]
     rw [if_pos (by omega), if_pos (by omega), if_pos h1, w64s i (by omega)]
   ·refine .inl ⟨s ++ [y], by simp; omega, ?_, 0, 1, fun k _ => ?_⟩
    ·rw [hd, dropNone, dropNone, List.filter_cons_of_pos (by simp [h1]), List.append_assoc]; rfl
    ·simp only [spec_Drop.l0, hr]
     rw [if_pos (by omega), if_pos (by omega), if_neg h1, if_pos (by omega), w64s i (by omega)])
  (by
   intro s _
   refine ⟨0, 1, fun k _ => ?_⟩
   simp only [spec_Drop.l0]
   rw [if_neg (by omega)]
   simp [dropNone])
 exact ⟨K, fun k hk' => hk k hk'⟩
def keyOk5 (a b c d e : Int) : Bool := decide (0 ≤ a ∧ a ≤ 15) && (decide (1 ≤ b ∧ b ≤ 60) && (decide (0 ≤ c ∧ c ≤ 2) && if c = 1 then decide (0 ≤ d ∧ d ≤ 23) && decide (0 ≤ e ∧ e ≤ 999) else decide (d = 0) && decide (e = 0)))
def keyOkB (x : S27) : Bool := keyOk5 x.f0 x.f1 x.f2 x.f3 x.f4
def risesAt (l : List S27) (j : Nat) : Bool := less (l.getD (j - 1) z27) (l.getD j z27)
def setOkB (l : List S27) : Bool := allFrom (fun j => keyOkB (l.getD j z27) && (j == 0 || risesAt l j)) l.length 0 && decide (l.length ≤ 60)
def countK : List (List S27) → Nat
 | [] => 0
 | l :: ls => l.length + countK ls
def nodeOkB (ls : List (List S27)) : Bool := allFrom (fun i => setOkB (ls.getD i []) && !decide ((ls.getD i []).length = 0)) ls.length 0 && (decide (ls.length ≤ 3) && decide (countK ls ≤ 8))
theorem countK_bulk : ∀ ls : List (List S27), countK ls ≤ bulkKeySS ls
 | [] => Nat.le_refl _
 | l :: ls => by have := countK_bulk ls; simp only [countK, bulkKeySS]; omega
theorem countK_drop (ls : List (List S27)) (i : Nat) (h : i < ls.length) : countK (ls.drop i) = (ls.getD i []).length + countK (ls.drop (i + 1)) := by
 rw [drop_getD ls i [] h]; rfl
def spotOf (a b : Int) : Int := wrap64 (wrap64 (64 * a) + b)
/-- The last low at most x, or -1: counted down from n. -/
def whereGo (l : List Int) (x : Int) : Nat → Int
 | 0 => -1
 | n + 1 => if l.getD n 0 ≤ x then (n : Int) else whereGo l x n
def mergeAll (s : List S27) (ls : List (List S27)) : List S27 := ls.foldl mergeSets s
def nodeKeys (ls : List (List S27)) : List S27 := dropNone (mergeAll [] ls)
theorem mergeAll_length : ∀ (ls : List (List S27)) (s : List S27), (mergeAll s ls).length ≤ s.length + countK ls
 | [], s => by simp [mergeAll]
 | l :: ls, s => by
  have h1 := mergeAll_length ls (mergeSets s l)
  have h2 := mergeSets_length s l
  simp only [mergeAll, List.foldl_cons, countK] at *
  omega
theorem dropNone_length (l : List S27) : (dropNone l).length ≤ l.length := List.length_filter_le _ _
theorem nodeKeys_length (ls : List (List S27)) : (nodeKeys ls).length ≤ countK ls := by
 have h1 := mergeAll_length ls []
 have h2 := dropNone_length (mergeAll [] ls)
 simp only [List.length_nil] at h1
 unfold nodeKeys
 omega
def inBoundsB (lows : List Int) (i : Nat) (ls : List (List S27)) : Bool := ls.all fun l => l.all fun x => decide (lows.getD i 0 ≤ spotOf x.f0 x.f1) && !(decide (i + 1 < lows.length) && decide (lows.getD (i + 1) 0 ≤ spotOf x.f0 x.f1))
theorem spec_NodeKeys_ev (ls : List (List S27)) (ho : okKeySS ls) : Ev (fun k => spec_NodeKeys.f k ls) (nodeKeys ls) := by
 have h := okKeySS_len ho
 have hb := countK_bulk ls
 have hbb : bulkKeySS ls ≤ 4194304 := ho
 obtain ⟨K, hk⟩ := evRange0 (σ := List S27) ls.length (fun k s i => spec_NodeKeys.l0 k s i ls) (fun i s => s.length + countK (ls.drop i) ≤ countK ls) (fun i s => dropNone (mergeAll s (ls.drop i))) [] (by simp)
  (by
   intro i s hi hs
   have hd := drop_getD ls i [] hi
   have hr : rd_L2 ls (i : Int) = ls.getD i [] := by simp [rd_L2]
   rw [countK_drop ls i hi] at hs
   obtain ⟨K, e⟩ := spec_MergeSets_ev s (ls.getD i []) (by omega)
   have hl := mergeSets_length s (ls.getD i [])
   refine .inl ⟨mergeSets s (ls.getD i []), by omega, by rw [hd]; rfl, K, 1, fun k hk => ?_⟩
   have e1 := e k hk
   simp only at e1
   simp only [spec_NodeKeys.l0, hr, e1, Option.bind_some]
   rw [if_pos (by omega), if_pos (by omega), w64s i (by omega)])
  (by
   intro s hs
   simp only [List.drop_length, countK] at hs
   obtain ⟨K, e⟩ := spec_Drop_ev s (by omega)
   refine ⟨K, 1, fun k hk => ?_⟩
   have e1 := e k hk
   simp only at e1
   simp only [spec_NodeKeys.l0, e1, Option.bind_some]
   rw [if_neg (by omega)]
   simp [mergeAll])
 exact ⟨K, fun k hk' => hk k hk'⟩
def sumKeysN : List S32 → Nat
 | [] => 0
 | x :: xs => (nodeKeys x.f0).length + sumKeysN xs
def treeKeys : List S32 → List S27
 | [] => []
 | x :: xs => nodeKeys x.f0 ++ treeKeys xs
theorem treeKeys_length : ∀ n : List S32, (treeKeys n).length = sumKeysN n
 | [] => rfl
 | x :: xs => by have := treeKeys_length xs; simp only [treeKeys, sumKeysN, List.length_append]; omega
theorem sumKeysN_bulk : ∀ n : List S32, sumKeysN n ≤ bulkNodeS n
 | [] => Nat.le_refl _
 | x :: xs => by
  have h1 := sumKeysN_bulk xs
  have h2 := nodeKeys_length x.f0
  have h3 := countK_bulk x.f0
  simp only [sumKeysN, bulkNodeS]
  omega
theorem treeKeys_drop (n : List S32) (i : Nat) (h : i < n.length) : treeKeys (n.drop i) = nodeKeys (n.getD i z32).f0 ++ treeKeys (n.drop (i + 1)) := by
 rw [drop_getD n i z32 h]; rfl
theorem sumKeysN_drop (n : List S32) (i : Nat) (h : i < n.length) : sumKeysN (n.drop i) = (nodeKeys (n.getD i z32).f0).length + sumKeysN (n.drop (i + 1)) := by
 rw [drop_getD n i z32 h]; rfl
theorem spec_TreeKeys_ev (l : List Int) (n : List S32) (ho : okNodeS n) : Ev (fun k => spec_TreeKeys.f k l n) (treeKeys n) := by
 have h := okNodeS_len ho
 have hb := sumKeysN_bulk n
 have hbb : bulkNodeS n ≤ 4194304 := ho
 obtain ⟨K, hk⟩ := evRange0 (σ := List S27) n.length (fun k s i => spec_TreeKeys.l0 k s i l n) (fun i s => s.length + sumKeysN (n.drop i) ≤ sumKeysN n) (fun i s => s ++ treeKeys (n.drop i)) [] (by simp)
  (by
   intro i s hi hs
   have hr : rd_T32 n (i : Int) = n.getD i z32 := by simp [rd_T32]
   rw [sumKeysN_drop n i hi] at hs
   obtain ⟨K, e⟩ := spec_NodeKeys_ev (n.getD i z32).f0 (okNodeS_at ho i hi)
   refine .inl ⟨s ++ nodeKeys (n.getD i z32).f0, by simp only [List.length_append]; omega, by rw [treeKeys_drop n i hi, List.append_assoc], K, 1, fun k hk => ?_⟩
   have e1 := e k hk
   simp only at e1
   simp only [spec_TreeKeys.l0, hr, e1, Option.bind_some]
   rw [if_pos (by omega), if_pos (by omega), if_pos (by omega), w64s i (by omega)])
  (by
   intro s hs
   refine ⟨0, 1, fun k _ => ?_⟩
   simp only [spec_TreeKeys.l0]
   rw [if_neg (by omega)]
   simp [treeKeys])
 exact ⟨K, fun k hk' => hk k hk'⟩
theorem impl_copyKeys_f (a : List S27) (h : a.length ≤ 4194304) : impl_copyKeys.f a = some a := by
 simp only [impl_copyKeys.f, Option.bind_some, List.length_nil, List.nil_append]
 rw [if_pos (by omega)]
theorem impl_LessKey_f (a b : S27) : impl_LessKey.f a.f0 a.f1 a.f2 a.f3 a.f4 b.f0 b.f1 b.f2 b.f3 b.f4 = some (less a b) := by
 unfold impl_LessKey.f less
 split
 ·simp [*]
 ·split
  ·simp [*]
  ·simp [*]
theorem impl_SameSpot_f (a b : S27) : impl_SameSpot.f a.f0 a.f1 a.f2 a.f3 a.f4 b.f0 b.f1 b.f2 b.f3 b.f4 = some (same a b) := by
 unfold impl_SameSpot.f same
 split
 ·simp only [*, true_and, Option.some.injEq]; rw [Bool.eq_iff_iff]; simp
 ·simp [*]
theorem impl_SetPut_ev (l : List S27) (x : S27) (h : l.length ≤ 4194304) : Ev (fun k => impl_SetPut.f k l x.f0 x.f1 x.f2 x.f3 x.f4) (setPut l x) := by
 obtain ⟨K, hk⟩ := evRange0 (σ := List S27 × Bool) l.length (fun k s i => impl_SetPut.l0 k s.1 s.2 l (l.length : Int) i x.f0 x.f1 x.f2 x.f3 x.f4) (fun i s => s.1.length ≤ 2 * i) (fun i s => s.1 ++ putGo x (l.drop i) s.2) ([], false) (by simp)
  (by
   intro i s hi hs
   obtain ⟨out, put⟩ := s
   simp only at hs
   have hd := drop_getD l i z27 hi
   have hr : rd_T27 l (i : Int) = l.getD i z27 := by simp [rd_T27]
   refine .inl ⟨(out ++ (if put || less (l.getD i z27) x then [] else [x]) ++ (if same (l.getD i z27) x then [] else [l.getD i z27]), put || !less (l.getD i z27) x), ?_, ?_, 0, 2, fun k _ => ?_⟩
   ·simp only [List.length_append]; split <;> split <;> simp <;> omega
   ·simp only [hd, putGo, List.append_assoc]
   ·generalize hy : l.getD i z27 = y at *
    simp only [impl_SetPut.l0, hr]
    rw [if_pos (by omega), if_pos (by omega), if_pos (by omega)]
    rw [impl_LessKey_f]
    simp only [Option.bind_some, impl_SetPut.j1]
    have hw := w64s i (by omega)
    cases put <;> cases hl : less y x <;> cases hq : same y x <;>
     simp only [Bool.not_true, Bool.not_false, if_true, if_false, Bool.false_eq_true, reduceCtorEq, impl_SameSpot_f, Option.bind_some, hq, hw, Bool.or_true, Bool.true_or, Bool.or_false, Bool.false_or, List.append_nil, List.append_assoc] <;>
     (repeat rw [if_pos (by first | omega | (simp only [List.length_append, List.length_cons, List.length_nil]; omega))]) <;> rfl)
  (by
   intro s hs
   obtain ⟨out, put⟩ := s
   simp only at hs
   refine ⟨0, 1, fun k _ => ?_⟩
   simp only [impl_SetPut.l0]
   rw [if_neg (by omega)]
   cases put
   ·rw [if_neg (by simp), if_pos (by omega)]; simp [putGo]
   ·rw [if_pos rfl]; simp [putGo])
 exact ⟨K, fun k hk' => hk k hk'⟩
theorem impl_MergeSets_ev (a b : List S27) (h : a.length + b.length ≤ 4194304) : Ev (fun k => impl_MergeSets.f k a b) (mergeSets a b) := by
 obtain ⟨K, hk⟩ := evRange0 (σ := List S27) b.length (fun k s i => impl_MergeSets.l0 k s b (b.length : Int) i) (fun i s => s.length ≤ a.length + i) (fun i s => mergeSets s (b.drop i)) a (by simp)
  (by
   intro i s hi hs
   have hd := drop_getD b i z27 hi
   have hr : rd_T27 b (i : Int) = b.getD i z27 := by simp [rd_T27]
   obtain ⟨K, e⟩ := impl_SetPut_ev s (b.getD i z27) (by omega)
   have hlen := setPut_length s (b.getD i z27)
   refine .inl ⟨setPut s (b.getD i z27), by omega, by simp only [hd, mergeSets, List.foldl_cons], K, 1, fun k hk => ?_⟩
   simp only [impl_MergeSets.l0, hr, e k hk, Option.bind_some]
   rw [if_pos (by omega), if_pos (by omega), if_pos (by omega), w64s i (by omega)])
  (by
   intro s hs
   refine ⟨0, 1, fun k _ => ?_⟩
   simp only [impl_MergeSets.l0]
   rw [if_neg (by omega)]
   simp [mergeSets])
 refine ⟨K, fun k hk' => ?_⟩
 simp only [impl_MergeSets.f, impl_copyKeys_f a (by omega), Option.bind_some]
 exact hk k hk'
theorem impl_Drop_ev (l : List S27) (h : l.length ≤ 4194304) : Ev (fun k => impl_Drop.f k l) (dropNone l) := by
 obtain ⟨K, hk⟩ := evRange0 (σ := List S27) l.length (fun k s i => impl_Drop.l0 k s l (l.length : Int) i) (fun i s => s.length ≤ i) (fun i s => s ++ dropNone (l.drop i)) [] (by simp)
  (by
   intro i s hi hs
   have hd := drop_getD l i z27 hi
   have hr : rd_T27 l (i : Int) = l.getD i z27 := by simp [rd_T27]
   generalize l.getD i z27 = y at *
   by_cases h1 : y.f2 = 0
   ·refine .inl ⟨s, by omega, ?_, 0, 1, fun k _ => ?_⟩
    ·rw [hd, dropNone, dropNone, List.filter_cons_of_neg (by simp [h1])]
    ·simp only [impl_Drop.l0, hr]
     rw [if_pos (by omega), if_pos (by omega), if_pos (by omega), if_pos h1, w64s i (by omega)]
   ·refine .inl ⟨s ++ [y], by simp; omega, ?_, 0, 1, fun k _ => ?_⟩
    ·rw [hd, dropNone, dropNone, List.filter_cons_of_pos (by simp [h1]), List.append_assoc]; rfl
    ·simp only [impl_Drop.l0, hr]
     rw [if_pos (by omega), if_pos (by omega), if_pos (by omega), if_neg h1, if_pos (by omega), w64s i (by omega)])
  (by
   intro s _
   refine ⟨0, 1, fun k _ => ?_⟩
   simp only [impl_Drop.l0]
   rw [if_neg (by omega)]
   simp [dropNone])
 exact ⟨K, fun k hk' => hk k hk'⟩
theorem impl_NodeKeys_ev (ls : List (List S27)) (ho : okKeySS ls) : Ev (fun k => impl_NodeKeys.f k ls) (nodeKeys ls) := by
 have h := okKeySS_len ho
 have hb := countK_bulk ls
 have hbb : bulkKeySS ls ≤ 4194304 := ho
 obtain ⟨K, hk⟩ := evRange0 (σ := List S27) ls.length (fun k s i => impl_NodeKeys.l0 k s ls (ls.length : Int) i) (fun i s => s.length + countK (ls.drop i) ≤ countK ls) (fun i s => dropNone (mergeAll s (ls.drop i))) [] (by simp)
  (by
   intro i s hi hs
   have hd := drop_getD ls i [] hi
   have hr : rd_L2 ls (i : Int) = ls.getD i [] := by simp [rd_L2]
   rw [countK_drop ls i hi] at hs
   obtain ⟨K, e⟩ := impl_MergeSets_ev s (ls.getD i []) (by omega)
   have hl := mergeSets_length s (ls.getD i [])
   refine .inl ⟨mergeSets s (ls.getD i []), by omega, by rw [hd]; rfl, K, 1, fun k hk => ?_⟩
   have e1 := e k hk
   simp only at e1
   simp only [impl_NodeKeys.l0, hr, e1, Option.bind_some]
   rw [if_pos (by omega), if_pos (by omega), if_pos (by omega), w64s i (by omega)])
  (by
   intro s hs
   simp only [List.drop_length, countK] at hs
   obtain ⟨K, e⟩ := impl_Drop_ev s (by omega)
   refine ⟨K, 1, fun k hk => ?_⟩
   have e1 := e k hk
   simp only at e1
   simp only [impl_NodeKeys.l0, e1, Option.bind_some]
   rw [if_neg (by omega)]
   simp [mergeAll])
 exact ⟨K, fun k hk' => hk k hk'⟩
theorem impl_TreeKeys_ev (l : List Int) (n : List S32) (ho : okNodeS n) : Ev (fun k => impl_TreeKeys.f k l n) (treeKeys n) := by
 have h := okNodeS_len ho
 have hb := sumKeysN_bulk n
 have hbb : bulkNodeS n ≤ 4194304 := ho
 obtain ⟨K, hk⟩ := evRange0 (σ := List S27) n.length (fun k s i => impl_TreeKeys.l0 k s n (n.length : Int) i) (fun i s => s.length + sumKeysN (n.drop i) ≤ sumKeysN n) (fun i s => s ++ treeKeys (n.drop i)) [] (by simp)
  (by
   intro i s hi hs
   have hr : rd_T32 n (i : Int) = n.getD i z32 := by simp [rd_T32]
   rw [sumKeysN_drop n i hi] at hs
   obtain ⟨K, e⟩ := impl_NodeKeys_ev (n.getD i z32).f0 (okNodeS_at ho i hi)
   refine .inl ⟨s ++ nodeKeys (n.getD i z32).f0, by simp only [List.length_append]; omega, by rw [treeKeys_drop n i hi, List.append_assoc], K, 1, fun k hk => ?_⟩
   have e1 := e k hk
   simp only at e1
   simp only [impl_TreeKeys.l0, hr, e1, Option.bind_some]
   rw [if_pos (by omega), if_pos (by omega), if_pos (by omega), if_pos (by omega), w64s i (by omega)])
  (by
   intro s hs
   refine ⟨0, 1, fun k _ => ?_⟩
   simp only [impl_TreeKeys.l0]
   rw [if_neg (by omega)]
   simp [treeKeys])
 exact ⟨K, fun k hk' => hk k hk'⟩
theorem cntKeyS_nn' (x : List S27) : 0 ≤ cntKeyS x := by unfold cntKeyS; omega
def cntKeySS (l : List (List S27)) : Int := cntL cntKeyS l
def mkKeySS (l : List (List S27)) (a : Int) : List (List S27) := mkL mkKeyS cntKeyS l a
theorem cntKeySS_nn0 (l : List (List S27)) : 0 ≤ cntKeySS l := cntL_nn cntKeyS cntKeyS_nn' l
theorem cntKeySS_bulk : ∀ l : List (List S27), cntKeySS l ≤ 5 * (bulkKeySS l : Int)
 | [] => by simp [cntKeySS, cntL, bulkKeySS]
 | x :: xs => by
  have := cntKeySS_bulk xs
  simp only [cntKeySS] at this
  simp only [cntKeySS, cntL, bulkKeySS, cntKeyS]
  push_cast
  omega
theorem cntKeySS_nn {l : List (List S27)} (h : okKeySS l) : 0 ≤ cntKeySS l ∧ cntKeySS l ≤ 20971520 := by
 have := cntKeySS_bulk l
 have := cntKeySS_nn0 l
 unfold okKeySS at h
 omega
theorem cntKeySS_take (l : List (List S27)) (i : Nat) : 0 ≤ cntKeySS (l.take i) ∧ cntKeySS (l.take i) ≤ cntKeySS l := ⟨cntKeySS_nn0 _, cntL_take_le cntKeyS cntKeyS_nn' l i⟩
def mkNode (x : S32) (a : Int) : S32 := ⟨mkKeySS x.f0 a⟩
def cntNode (x : S32) : Int := cntKeySS x.f0
theorem cntNode_nn (x : S32) : 0 ≤ cntNode x := cntKeySS_nn0 x.f0
def cntNodeS (l : List S32) : Int := cntL cntNode l
def mkNodeS (l : List S32) (a : Int) : List S32 := mkL mkNode cntNode l a
theorem cntNodeS_nn0 (l : List S32) : 0 ≤ cntNodeS l := cntL_nn cntNode cntNode_nn l
theorem cntNodeS_bulk : ∀ l : List S32, cntNodeS l ≤ 5 * (bulkNodeS l : Int)
 | [] => by simp [cntNodeS, cntL, bulkNodeS]
 | x :: xs => by
  have := cntNodeS_bulk xs
  have := cntKeySS_bulk x.f0
  simp only [cntNodeS] at *
  simp only [cntL, bulkNodeS, cntNode] at *
  push_cast
  omega
theorem cntNodeS_nn {l : List S32} (h : okNodeS l) : 0 ≤ cntNodeS l ∧ cntNodeS l ≤ 20971520 := by
 have := cntNodeS_bulk l
 have := cntNodeS_nn0 l
 unfold okNodeS at h
 omega
theorem cntNodeS_take (l : List S32) (i : Nat) : 0 ≤ cntNodeS (l.take i) ∧ cntNodeS (l.take i) ≤ cntNodeS l := ⟨cntNodeS_nn0 _, cntL_take_le cntNode cntNode_nn l i⟩
end Go.Proofs.Ythpfihklkcnckaa.Pure

namespace Go.Proofs.Ythpfihklkcnckaa.Law
open Go.RowKit Go.Proofs.Ythpfihklkcnckaa.PFnExactTreeKeys Go.Proofs.Ythpfihklkcnckaa.Core Go.Proofs.YthpfihklkcnckaaW.PrintWords Go.Proofs.YthpfihklkcnckaaW.PrintLast Go.Proofs.YthpfihklkcnckaaW.PrintMore Go.Proofs.Ythpfihklkcnckaa.Pure
set_option linter.unusedSimpArgs false
set_option linter.unusedVariables false
def laws_markKeySS.f (l0 : List (List S27)) (a1 : Int) : Option (Int × List (List S27)) := if bulkKeySS l0 ≤ 4194304 ∧ 0 ≤ a1 ∧ a1 ≤ 1000000000000 then some (a1 + cntKeySS l0, mkKeySS l0 a1) else none
theorem markKeySS_f {l : List (List S27)} {a : Int} (ho : okKeySS l) (h0 : 0 ≤ a) (h1 : a ≤ 1000000000000) : laws_markKeySS.f l a = some (a + cntKeySS l, mkKeySS l a) := if_pos ⟨ho, h0, h1⟩
set_option maxHeartbeats 4000000 in
set_option maxRecDepth 100000 in
theorem laws_markKeySS.calls (P0_ : Nat → Prop) (u9000_ : Value) (l0 : List (List S27)) (a1 : Int) (r1 : Int) (r2 : List (List S27)) (w0 w : World) (hB : Below w0.heap.size w0 w) (ho0 : Kd.S (Kd.slice 27 k27) 40 w w0.heap.size P0_ u9000_ l0) (h : laws_markKeySS.f l0 a1 = some (r1, r2)) :
  Calls Try.prog 59 #[u9000_, .int .i64 a1] w fun e w' => e = .returned (.int .i64 r1) ∧ Kd.S (Kd.slice 27 k27) 40 w' w0.heap.size (fun k_ => (P0_ k_ ∨ w.heap.size ≤ k_)) u9000_ r2 ∧ Below w0.heap.size w0 w' ∧ Kept w w' (fun k_ => P0_ k_) := by
 unfold laws_markKeySS.f at h
 split at h
 case isFalse => cases h
 case isTrue hc =>
 obtain ⟨hok, h0, h1⟩ := hc
 replace hok : okKeySS l0 := hok
 obtain ⟨ll, rfl⟩ : ∃ y, y = l0 := ⟨_, rfl⟩
 obtain ⟨a, rfl⟩ : ∃ y, y = a1 := ⟨_, rfl⟩
 obtain ⟨P, rfl⟩ : ∃ y, y = P0_ := ⟨_, rfl⟩
 obtain ⟨u, rfl⟩ : ∃ y, y = u9000_ := ⟨_, rfl⟩
 have ho := ho0
 clear ho0
 injection h with h
 injection h with hr1 hr2
 subst hr1
 subst hr2
 have HL := aA.mk (okKeySS_len hok)
 have HOK := aA.mk hok
 have HC := aA.mk (cntKeySS_nn hok)
 have HO0 := aA.mk (show Kd.S (Kd.slice 27 k27) 40 w w0.heap.size (fun k_ => P k_ ∨ w.heap.size ≤ k_) u (midL mkKeyS cntKeyS ll a 0) from by rw [midL_zero]; exact Kd.S_mono ho (fun _ hk => .inl hk))
 obtain ⟨A, c, rfl⟩ := Kd.S_slice ho
 have HK := aA.mk (Kept.refl w P)
 have HB := aA.mk hB
 have H0 := aA.mk h0
 have H1 := aA.mk h1
 clear hB ho hok h0 h1
 go_enter Try.func59, Try.ntmps59
 go_wp2
 go_loopg [1, 5] ll.length (fun kq v1 v5 w' => ∃ (x1_1 x5_1 : Int), v1 = .int .i64 x1_1 ∧ v5 = .int .i64 x5_1 ∧ aA (0 ≤ x5_1 ∧ x5_1 ≤ ll.length ∧ kq = ll.length - x5_1.toNat) ∧ aA (x1_1 = a + cntKeySS (ll.take x5_1.toNat)) ∧ aA (Kd.S (Kd.slice 27 k27) 40 w' w0.heap.size (fun k_ => P k_ ∨ w.heap.size ≤ k_) (.slice A ll.length c) (midL mkKeyS cntKeyS ll a x5_1.toNat)) ∧ aA (Kept w w' P) ∧ aA (Below w0.heap.size w0 w'))
 case atStart => exact ⟨a, 0, rfl, rfl, ⟨by omega⟩, ⟨by simp [cntKeySS, cntL]⟩, HO0, HK, HB⟩
 case round =>
  clear HO0 HK HB
  obtain ⟨x1_1, x5_1, rfl, rfl, HI, HX, HO, HK, HB⟩ := hrel
  by_cases c3 : x5_1 < (ll.length : Int)
  ·have c3b0 : decide (x5_1 < (ll.length : Int)) = true := decide_eq_true c3
   have p1 : 0 ≤ x5_1 := HI.out.1
   obtain ⟨i, hi⟩ : ∃ i : Nat, i = x5_1.toNat := ⟨_, rfl⟩
   have hil : i < ll.length := by omega
   obtain ⟨go, co, eo, gb, gl, cl, HG⟩ := Kd.S_form HO.out (by rw [midL_length mkKeyS cntKeyS ll a _ (by omega)]; omega)
   rw [midL_length mkKeyS cntKeyS ll a _ (by omega)] at eo
   cases eo
   obtain ⟨oki, v, hoki, hR, hcell, hback⟩ := Mem.lent HO.out x5_1 p1 c3 (fun k hk => .inr (Nat.le_trans HK.out.1 hk))
   rw [← hi, midL_getD mkKeyS cntKeyS [] ll a i hil] at hR
   obtain ⟨Ai, ci, rfl⟩ := Kd.R_slice hR
   have ht := cntKeySS_take ll i
   have hx := HX.out
   rw [← hi] at hx
   have hc := HC.out
   have h0 := H0.out
   have h1 := H1.out
   obtain ⟨K, hK⟩ := markKeyS_ev (ll.getD i []) x1_1 (okKeySS_at HOK.out i hil) (by omega) (by omega)
   have hcall := laws_markKeyS.calls K oki _ (ll.getD i []) x1_1 (x1_1 + cntKeyS (ll.getD i [])) (mkKeyS (ll.getD i []) x1_1) w0 wr HB.out hR (hK K (Nat.le_refl _))
   have HCALL := aA.mk hcall
   have HN := aA.mk (show cntKeySS (ll.take (i + 1)) = cntKeySS (ll.take i) + cntKeyS (ll.getD i []) from cntL_take cntKeyS [] ll i hil)
   have HS := aA.mk (midL_set mkKeyS cntKeyS [] ll a i hil)
   have HBK := aA.mk hback
   have HOKI := aA.mk hoki
   have HI' := aA.mk hi
   have HX' := aA.mk hx
   have HIL := aA.mk hil
   have HE := aA.mk (show rdOf [] ll x5_1 = ll.getD i [] by unfold rdOf; rw [hi])
   clear hK hcall hback hoki hx hc h0 h1 ht hil hR
   clear HO
   replace p1 := eq_true p1
   replace c3 := eq_true c3
   generalize ll.getD i [] = y at *
   clear hi
   go_wp2_with (first | ((with_reducible refine aZ (f := 25) rfl ?_); refine goesL_ (some 17) rfl rfl Try.func25 (by kernel_rfl) rfl #[.slice Ai y.length ci, .int .i64 x1_1] rfl (by (try simp only [List.map_toArray, List.map_cons, List.map_nil]); first | done | rfl) ?_; refine HCALL.out.mono ?_; rintro e w1 ⟨rfl, hR1, hB1, hK1⟩; refine ⟨_, rfl, ?_⟩; have n0 := aA.mk (HBK.out w1 _ hK1 hR1); have n1 := aA.mk (Kept.then_ HK.out hK1 (fun k hk => HOKI.out k hk)); clear HK HB; have HO := n0; have HK := n1; have HB := aA.mk hB1; clear n0 n1 hK1 hR1 hB1))
   go_roundg (ll.length - (x5_1.toNat + 1))
   case measure => have := HI.out; have := HIL.out; have := HI'.out; omega
   case rel =>
    have hI := HI.out
    have hi := HI'.out
    have hil := HIL.out
    have hw : wrap64 (x5_1 + 1) = x5_1 + 1 := w64 (by omega) (by have := HL.out; omega)
    have ht : (x5_1 + 1).toNat = i + 1 := by omega
    refine ⟨_, x5_1 + 1, rfl, by first | rfl | (rw [hw]) | (simp [hw]), ⟨by omega⟩, ⟨?_⟩, ⟨?_⟩, HK, HB⟩
    ·rw [ht, HN.out, HX'.out]; omega
    ·have h := HO.out
     have hS : (midL mkKeyS cntKeyS ll a i).set i (mkKeyS y (a + cntKeySS (ll.take i))) = midL mkKeyS cntKeyS ll a (i + 1) := HS.out
     rw [← HX'.out] at hS
     rw [ht, ← hS, hi]
     exact h
  ·have c3b0 : decide (x5_1 < (ll.length : Int)) = false := decide_eq_false c3
   have hI := HI.out
   have hx := HX.out
   have ho := HO.out
   have e1 : x5_1.toNat = ll.length := by omega
   rw [e1, List.take_length] at hx
   rw [e1, midL_all] at ho
   have HO' := aA.mk ho
   have HX' := aA.mk hx
   clear hI hx ho e1 c3
   go_wp2
   go_ret
   exact ⟨by rw [HX'.out]; rfl, HO'.out, HB.out, HK.out⟩
/-- Rows whose elements' rows lie apart, as an element. -/
def deepS {α : Type} (e : Nat) (d : Kd α) : Kd (List α) where
 sz := 1
 E := e :: d.E
 K := (Kd.slice e d).K
 M := fun w base ok x cs => ∃ v, cs = [v] ∧ Kd.S d e w base ok v x
 K_len := (Kd.slice e d).K_len
 K_one := (Kd.slice e d).K_one
 K_below := (Kd.slice e d).K_below
 K_of_M := by
  rintro w base ok x cs ⟨v, rfl, h⟩
  exact (Kd.slice e d).K_of_M ⟨v, rfl, Kd.S_R h⟩
 M_mono := by
  rintro w base ok ok' x cs hok ⟨v, rfl, h⟩
  exact ⟨v, rfl, Kd.S_mono h hok⟩
 M_bound := by
  rintro w base ok x cs ⟨v, rfl, h⟩
  exact ⟨v, rfl, Kd.S_bound h⟩
 M_move := by
  rintro w w1 base ok x cs hm ⟨v, rfl, h⟩
  exact ⟨v, rfl, Kd.S_move h hm⟩
 M_lower := by
  rintro w base base' ok x cs hb ⟨v, rfl, h⟩
  exact ⟨v, rfl, Kd.S_lower h hb⟩
def k32D : Kd S32 := Kd.iso (deepS 40 (Kd.slice 27 k27)) (fun x : S32 => x.f0)
theorem lentD {g n cap base : Nat} {P : Nat → Prop} {W : World} {xs : List S32} (h : Kd.S k32D 32 W base P (.slice (some ⟨g, 0, none⟩) n cap) xs) (i : Int) (h0 : 0 ≤ i) (h1 : i < n) (hnew : ∀ k, W.heap.size ≤ k → P k) :
  ∃ (oki : Nat → Prop) (v : Value), (∀ k, oki k → P k) ∧ Kd.S (Kd.slice 27 k27) 40 W base oki v (xs.getD i.toNat z32).f0 ∧ W.cell? ⟨g, i.toNat, none⟩ = some v ∧
   ∀ (w1 : World) (x' : S32), Kept W w1 oki → Kd.S (Kd.slice 27 k27) 40 w1 base (fun k => oki k ∨ W.heap.size ≤ k) v x'.f0 → Kd.S k32D 32 w1 base P (.slice (some ⟨g, 0, none⟩) n cap) (xs.set i.toNat x') := by
 obtain ⟨oki, c, hcl, hM, hcc, hoki, hH⟩ := Kd.S_lend h z32 i h0 h1
 obtain ⟨v, rfl, hR⟩ := hM
 refine ⟨oki, v, fun k hk => (hoki k hk).1, hR, ?_, fun w1 x' hk hR' => ?_⟩
 ·have := hcc 0 v rfl
  simpa [show (k32D).sz = 1 from rfl] using this
 ·refine Kd.H_back (Kd.H_step (Kd.H_widen hH) (fun k ho hn hlt => hk.2 k hlt (fun h2 => hn (.inl h2)))) (okp := fun k => oki k ∨ W.heap.size ≤ k) ⟨v, rfl, hR'⟩ (fun k hk' => ?_)
  rcases hk' with hk' | hk'
  ·exact .inl hk'
  ·exact .inr ⟨hnew k hk', hk'⟩
def laws_markNodeS.f (l0 : List S32) (a1 : Int) : Option (Int × List S32) := if bulkNodeS l0 ≤ 4194304 ∧ 0 ≤ a1 ∧ a1 ≤ 900000000000 then some (a1 + cntNodeS l0, mkNodeS l0 a1) else none
theorem markNodeS_f {l : List S32} {a : Int} (ho : okNodeS l) (h0 : 0 ≤ a) (h1 : a ≤ 900000000000) : laws_markNodeS.f l a = some (a + cntNodeS l, mkNodeS l a) := if_pos ⟨ho, h0, h1⟩
set_option maxHeartbeats 4000000 in
set_option maxRecDepth 100000 in
theorem laws_markNodeS.calls (P0_ : Nat → Prop) (u9000_ : Value) (l0 : List S32) (a1 : Int) (r1 : Int) (r2 : List S32) (w0 w : World) (hB : Below w0.heap.size w0 w) (ho0 : Kd.S k32D 32 w w0.heap.size P0_ u9000_ l0) (h : laws_markNodeS.f l0 a1 = some (r1, r2)) :
  Calls Try.prog 76 #[u9000_, .int .i64 a1] w fun e w' => e = .returned (.int .i64 r1) ∧ Kd.S k32D 32 w' w0.heap.size (fun k_ => (P0_ k_ ∨ w.heap.size ≤ k_)) u9000_ r2 ∧ Below w0.heap.size w0 w' ∧ Kept w w' (fun k_ => P0_ k_) := by
 unfold laws_markNodeS.f at h
 split at h
 case isFalse => cases h
 case isTrue hc =>
 obtain ⟨hok, h0, h1⟩ := hc
 replace hok : okNodeS l0 := hok
 obtain ⟨ll, rfl⟩ : ∃ y, y = l0 := ⟨_, rfl⟩
 obtain ⟨a, rfl⟩ : ∃ y, y = a1 := ⟨_, rfl⟩
 obtain ⟨P, rfl⟩ : ∃ y, y = P0_ := ⟨_, rfl⟩
 obtain ⟨u, rfl⟩ : ∃ y, y = u9000_ := ⟨_, rfl⟩
 have ho := ho0
 clear ho0
 injection h with h
 injection h with hr1 hr2
 subst hr1
 subst hr2
 have HL := aA.mk (okNodeS_len hok)
 have HOK := aA.mk hok
 have HC := aA.mk (cntNodeS_nn hok)
 have HO0 := aA.mk (show Kd.S k32D 32 w w0.heap.size (fun k_ => P k_ ∨ w.heap.size ≤ k_) u (midL mkNode cntNode ll a 0) from by rw [midL_zero]; exact Kd.S_mono ho (fun _ hk => .inl hk))
 obtain ⟨A, c, rfl⟩ := Kd.S_slice ho
 have HK := aA.mk (Kept.refl w P)
 have HB := aA.mk hB
 have H0 := aA.mk h0
 have H1 := aA.mk h1
 clear hB ho hok h0 h1
 go_enter Try.func76, Try.ntmps76
 go_wp2
 go_loopg [1, 5] ll.length (fun kq v1 v5 w' => ∃ (x1_1 x5_1 : Int), v1 = .int .i64 x1_1 ∧ v5 = .int .i64 x5_1 ∧ aA (0 ≤ x5_1 ∧ x5_1 ≤ ll.length ∧ kq = ll.length - x5_1.toNat) ∧ aA (x1_1 = a + cntNodeS (ll.take x5_1.toNat)) ∧ aA (Kd.S k32D 32 w' w0.heap.size (fun k_ => P k_ ∨ w.heap.size ≤ k_) (.slice A ll.length c) (midL mkNode cntNode ll a x5_1.toNat)) ∧ aA (Kept w w' P) ∧ aA (Below w0.heap.size w0 w'))
 case atStart => exact ⟨a, 0, rfl, rfl, ⟨by omega⟩, ⟨by simp [cntNodeS, cntL]⟩, HO0, HK, HB⟩
 case round =>
  clear HO0 HK HB
  obtain ⟨x1_1, x5_1, rfl, rfl, HI, HX, HO, HK, HB⟩ := hrel
  by_cases c3 : x5_1 < (ll.length : Int)
  ·have c3b0 : decide (x5_1 < (ll.length : Int)) = true := decide_eq_true c3
   have p1 : 0 ≤ x5_1 := HI.out.1
   obtain ⟨i, hi⟩ : ∃ i : Nat, i = x5_1.toNat := ⟨_, rfl⟩
   have hil : i < ll.length := by omega
   obtain ⟨go, co, eo, gb, gl, cl, HG⟩ := Kd.S_form HO.out (by rw [midL_length mkNode cntNode ll a _ (by omega)]; omega)
   rw [midL_length mkNode cntNode ll a _ (by omega)] at eo
   cases eo
   obtain ⟨oki, v, hoki, hR, hcell, hback⟩ := lentD HO.out x5_1 p1 c3 (fun k hk => .inr (Nat.le_trans HK.out.1 hk))
   rw [← hi, midL_getD mkNode cntNode z32 ll a i hil] at hR
   obtain ⟨Ai, ci, rfl⟩ := Kd.S_slice hR
   have ht := cntNodeS_take ll i
   have hx := HX.out
   rw [← hi] at hx
   have hc := HC.out
   have h0 := H0.out
   have h1 := H1.out
   have hcall := laws_markKeySS.calls oki _ (ll.getD i z32).f0 x1_1 (x1_1 + cntKeySS (ll.getD i z32).f0) (mkKeySS (ll.getD i z32).f0 x1_1) w0 wr HB.out hR (markKeySS_f (okNodeS_at HOK.out i hil) (by omega) (by omega))
   have HCALL := aA.mk hcall
   have HN := aA.mk (show cntNodeS (ll.take (i + 1)) = cntNodeS (ll.take i) + cntNode (ll.getD i z32) from cntL_take cntNode z32 ll i hil)
   have HS := aA.mk (midL_set mkNode cntNode z32 ll a i hil)
   have HBK := aA.mk hback
   have HOKI := aA.mk hoki
   have HI' := aA.mk hi
   have HX' := aA.mk hx
   have HIL := aA.mk hil
   clear hcall hback hoki hx hc h0 h1 ht hil hR
   clear HO
   replace p1 := eq_true p1
   replace c3 := eq_true c3
   generalize ll.getD i z32 = y at *
   clear hi
   go_wp2_with (first | ((with_reducible refine aZ (f := 59) rfl ?_); refine goesL_ (some 18) rfl rfl Try.func59 (by kernel_rfl) rfl #[.slice Ai y.f0.length ci, .int .i64 x1_1] rfl (by (try simp only [List.map_toArray, List.map_cons, List.map_nil]); first | done | rfl) ?_; refine HCALL.out.mono ?_; rintro e w1 ⟨rfl, hR1, hB1, hK1⟩; refine ⟨_, rfl, ?_⟩; have n0 := aA.mk (HBK.out w1 (⟨_⟩ : S32) hK1 hR1); have n1 := aA.mk (Kept.then_ HK.out hK1 (fun k hk => HOKI.out k hk)); clear HK HB; have HO := n0; have HK := n1; have HB := aA.mk hB1; clear n0 n1 hK1 hR1 hB1))
   go_roundg (ll.length - (x5_1.toNat + 1))
   case measure => have := HI.out; have := HIL.out; have := HI'.out; omega
   case rel =>
    have hI := HI.out
    have hi := HI'.out
    have hil := HIL.out
    have hw : wrap64 (x5_1 + 1) = x5_1 + 1 := w64 (by omega) (by have := HL.out; omega)
    have ht : (x5_1 + 1).toNat = i + 1 := by omega
    refine ⟨_, x5_1 + 1, rfl, by first | rfl | (rw [hw]) | (simp [hw]), ⟨by omega⟩, ⟨?_⟩, ⟨?_⟩, HK, HB⟩
    ·rw [ht, HN.out, HX'.out]; unfold cntNode; omega
    ·have h := HO.out
     have hS : (midL mkNode cntNode ll a i).set i (mkNode y (a + cntNodeS (ll.take i))) = midL mkNode cntNode ll a (i + 1) := HS.out
     rw [← HX'.out] at hS
     rw [ht, ← hS, hi]
     exact h
  ·have c3b0 : decide (x5_1 < (ll.length : Int)) = false := decide_eq_false c3
   have hI := HI.out
   have hx := HX.out
   have ho := HO.out
   have e1 : x5_1.toNat = ll.length := by omega
   rw [e1, List.take_length] at hx
   rw [e1, midL_all] at ho
   have HO' := aA.mk ho
   have HX' := aA.mk hx
   clear hI hx ho e1 c3
   go_wp2
   go_ret
   exact ⟨by rw [HX'.out]; rfl, HO'.out, HB.out, HK.out⟩
theorem V_of_S {α : Type} {d : Kd α} {e base : Nat} {W : World} {ok : Nat → Prop} {v : Value} {xs : List α} (h : Kd.S d e W base ok v xs) : Kd.V d e W base ok v xs := by
 obtain ⟨A, c, rfl, hl, _⟩ := Kd.S_reads h
 exact ⟨A, c, rfl, hl, Kd.S_F h⟩
theorem V_of_R {α : Type} {d : Kd α} {e base : Nat} {W : World} {ok : Nat → Prop} {v : Value} {xs : List α} (h : Kd.R d e W base ok v xs) : Kd.V d e W base ok v xs := by
 obtain ⟨A, c, rfl, hl, _⟩ := Kd.R_reads h
 exact ⟨A, c, rfl, hl, Kd.R_F h⟩
theorem V_kept' {α : Type} {d : Kd α} {e base : Nat} {W W1 : World} {ok S : Nat → Prop} {v : Value} {xs : List α} (h : Kd.V d e W base ok v xs) (hk : Kept W W1 S) (hne : ∀ k, ok k → k < W.heap.size → ¬ S k) : Kd.V d e W1 base (fun k => ok k ∧ k < W.heap.size) v xs := by
 obtain ⟨A, c, rfl, hl, hf⟩ := h
 exact ⟨A, c, rfl, hl, Kd.F_kept (Kd.F_bound hf) hk (fun k hk => hne k hk.1 hk.2)⟩
def laws_markTree.f (l0_0 : List Int) (l0_1 : List S32) (a1 : Int) : Option (Int × List Int × List S32) := if l0_0.length ≤ 4194304 ∧ bulkNodeS l0_1 ≤ 4194304 ∧ 0 ≤ a1 ∧ a1 ≤ 800000000000 then some (a1 + (cntIntS l0_0 + cntNodeS l0_1), mkIntS l0_0 a1, mkNodeS l0_1 (a1 + cntIntS l0_0)) else none
theorem markTree_f {l : List Int} {m : List S32} {a : Int} (ho : okIntS l) (ho2 : okNodeS m) (h0 : 0 ≤ a) (h1 : a ≤ 800000000000) : laws_markTree.f l m a = some (a + (cntIntS l + cntNodeS m), mkIntS l a, mkNodeS m (a + cntIntS l)) := if_pos ⟨ho, ho2, h0, h1⟩
set_option maxHeartbeats 4000000 in
set_option maxRecDepth 100000 in
theorem laws_markTree.calls (P0_0_ P0_1_ : Nat → Prop) (u9000_ u9001_ : Value) (l0_0 : List Int) (l0_1 : List S32) (a1 : Int) (r1 : Int) (r2 : List Int) (r3 : List S32) (w0 w : World) (hB : Below w0.heap.size w0 w) (ho0_0 : Kd.R (Kd.int .i64) 3 w w0.heap.size P0_0_ u9000_ l0_0) (ho0_1 : Kd.S k32D 32 w w0.heap.size P0_1_ u9001_ l0_1) (h : laws_markTree.f l0_0 l0_1 a1 = some (r1, r2, r3)) :
  Calls Try.prog 41 #[.agg #[u9000_, u9001_], .int .i64 a1] w fun e w' => e = .returned (.int .i64 r1) ∧ Kd.V (Kd.int .i64) 3 w' w0.heap.size (fun k_ => (P0_0_ k_ ∨ P0_1_ k_) ∨ w.heap.size ≤ k_) u9000_ r2 ∧ Kd.V k32D 32 w' w0.heap.size (fun k_ => (P0_0_ k_ ∨ P0_1_ k_) ∨ w.heap.size ≤ k_) u9001_ r3 ∧ Below w0.heap.size w0 w' ∧ Kept w w' (fun k_ => P0_0_ k_ ∨ P0_1_ k_) := by
 have hu := Try.underlying58
 unfold laws_markTree.f at h
 split at h
 case isFalse => cases h
 case isTrue hcond =>
 obtain ⟨hok0, hok1, hge, hle⟩ := hcond
 replace hok0 : okIntS l0_0 := hok0
 replace hok1 : okNodeS l0_1 := hok1
 injection h with h
 simp only [Prod.mk.injEq] at h
 obtain ⟨rfl, rfl, rfl⟩ := h
 have hc0 := cntIntS_nn hok0
 obtain ⟨K, hK⟩ := markIntS_ev l0_0 a1 hok0 hge (by omega)
 have hA : laws_markIntS.f K l0_0 a1 = some (a1 + cntIntS l0_0, mkIntS l0_0 a1) := hK K (Nat.le_refl _)
 have hA2 := markNodeS_f (a := a1 + cntIntS l0_0) hok1 (by omega) (by omega)
 clear hK
 -- the blocks of the first row, by their type; the second's are none of these
 obtain ⟨P, hP⟩ : ∃ P : Nat → Prop, P = fun k => P0_0_ k ∧ k < w.heap.size ∧ ∃ cells, w.heap[k]? = some (.cells cells 3 (0, 0)) := ⟨_, rfl⟩
 obtain ⟨Q, hQ⟩ : ∃ Q : Nat → Prop, Q = fun k => P0_1_ k ∧ k < w.heap.size ∧ ¬ P k := ⟨_, rfl⟩
 have hS0 : Kd.R (Kd.int .i64) 3 w w0.heap.size P u9000_ l0_0 := Kd.bF (Kd.R_bound ho0_0) (fun k hk => by
  rw [hP]
  obtain ⟨h1, _, h2, q, hq, hc⟩ := hk
  have : q = 3 := by simpa [Kd.int, Kd.scalar] using hq
  subst this
  exact ⟨h1, h2, hc⟩)
 have hS1 : Kd.S k32D 32 w w0.heap.size Q u9001_ l0_1 := Kd.S_mono (Kd.S_bound ho0_1) (fun k hk => by
  rw [hQ]
  obtain ⟨h1, _, h2, q, hq, cells, hc⟩ := hk
  refine ⟨h1, h2, fun h3 => ?_⟩
  rw [hP] at h3
  obtain ⟨_, _, cells', hc'⟩ := h3
  rw [hc] at hc'
  injection hc' with hc'
  injection hc' with _ hc'
  subst hc'
  revert hq
  decide)
 have hPQ : ∀ k, P k → ¬ Q k := fun k h1 h2 => by rw [hQ] at h2; exact h2.2.2 h1
 have hPlt : ∀ k, P k → k < w.heap.size := fun k h1 => by rw [hP] at h1; exact h1.2.1
 have hQlt : ∀ k, Q k → k < w.heap.size := fun k h1 => by rw [hQ] at h1; exact h1.2.1
 have hP0 : ∀ k, P k → P0_0_ k := fun k h1 => by rw [hP] at h1; exact h1.1
 have hQ0 : ∀ k, Q k → P0_1_ k := fun k h1 => by rw [hQ] at h1; exact h1.1
 clear ho0_0 ho0_1
 obtain ⟨A, c, rfl⟩ := Kd.R_slice hS0
 obtain ⟨A', c', rfl⟩ := Kd.S_slice hS1
 have HS0 := aA.mk hS0
 have HS1 := aA.mk hS1
 have HPQ := aA.mk hPQ
 have HPL := aA.mk hPlt
 have HQL := aA.mk hQlt
 have HP0 := aA.mk hP0
 have HQ0 := aA.mk hQ0
 have HB := aA.mk hB
 have H1 := aA.mk hA
 have H2 := aA.mk hA2
 clear hS0 hS1 hPQ hPlt hQlt hP0 hQ0 hB hA hA2 hP hQ hok0 hok1 hge hle
 have HSUM := aA.mk (show a1 + cntIntS l0_0 + cntNodeS l0_1 = a1 + (cntIntS l0_0 + cntNodeS l0_1) by omega)
 clear hc0
 generalize mkIntS l0_0 a1 = t2 at *
 generalize hs2_ : mkNodeS l0_1 (a1 + cntIntS l0_0) = s2 at *
 clear hs2_
 generalize hs1_ : a1 + cntIntS l0_0 + cntNodeS l0_1 = s1 at *
 generalize a1 + cntIntS l0_0 = t1 at *
 clear hs1_
 go_enter Try.func41, Try.ntmps41
 go_wp2_with (first | ((with_reducible refine aY (N := 2) rfl ?_); refine bA ?hg (N := 2) ?hd (cs := #[.slice A l0_0.length c, .slice A' l0_1.length c']) (t := 58) ?hr ?_; (case hd => rfl); (case hg => rfl); (case hr => first | (go_simp; done) | (go_simp; rfl)); intro gb hg_ w1 hbox hb; have HG := aA.mk hg_; have BK := aA.mk hbox; have HBX := aA.mk hb; have hz0 : w1.cell? ⟨gb, 0, none⟩ = some (.slice A l0_0.length c) := (aH BK.out 0).trans rfl; have hz1 : w1.cell? ⟨gb, 1, none⟩ = some (.slice A' l0_1.length c') := (aH BK.out 1).trans rfl; clear hbox hb hg_) | ((with_reducible refine aZ (f := 75) rfl ?_); refine goesL_ (some 8) rfl rfl Try.func75 (by kernel_rfl) rfl #[.slice A l0_0.length c, .int .i64 a1] rfl (by (try simp only [List.map_toArray, List.map_cons, List.map_nil]); first | done | rfl) ?_; (with_reducible refine (laws_markIntS.calls K P _ l0_0 a1 t1 t2 w0 w1 ?s1 ?s2 H1.out).mono ?_); (case s1 => exact below_then HB.out HB.out.size HBX.out); (case s2 => exact Kd.R_below HS0.out HBX.out); rintro e w2 ⟨rfl, hs, hb2, hk⟩; refine ⟨_, rfl, ?_⟩; have HV := aA.mk (V_of_R hs); have HB2 := aA.mk hb2; have HK := aA.mk hk; have BK2 := aA.mk (blk_kept BK.out hk (fun h2 => by have := HPL.out _ h2; rw [HG.out] at this; omega)); clear hs hb2 hk; have hz2 : w2.cell? ⟨gb, 1, none⟩ = some (.slice A' l0_1.length c') := (aH BK2.out 1).trans rfl) | ((with_reducible refine aZ (f := 76) rfl ?_); refine goesL_ (some 12) rfl rfl Try.func76 (by kernel_rfl) rfl #[.slice A' l0_1.length c', .int .i64 t1] rfl (by (try simp only [List.map_toArray, List.map_cons, List.map_nil]); first | done | rfl) ?_; (with_reducible refine (laws_markNodeS.calls Q _ l0_1 t1 s1 s2 w0 w2 ?s3 ?s4 H2.out).mono ?_); (case s3 => exact HB2.out); (case s4 => exact Kd.S_kept (Kd.S_below HS1.out HBX.out) HK.out (fun k hk h2 => HPQ.out k h2 hk)); rintro e w3 ⟨rfl, hs, hb3, hk3⟩; refine ⟨_, rfl, ?_⟩; have HV3 := aA.mk (V_of_S hs); have HB3 := aA.mk hb3; have HK3 := aA.mk hk3; clear hs hb3 hk3))
 go_ret
 have hz := HBX.out.size
 have hk2 := HK.out.1
 obtain ⟨A3, c3, e3, l3, f3⟩ := V_kept' HV.out HK3.out (fun k h1 hlt h2 => by
  rcases h1 with h1 | h1
  ·exact HPQ.out k h1 h2
  ·have := HQL.out k h2; omega)
 obtain ⟨A4, c4, e4, l4, f4⟩ := HV3.out
 refine ⟨by rw [← HSUM.out]; rfl, ⟨A3, c3, e3, l3, Kd.F_mono f3 (fun k hk => hk.1.elim (fun h => .inl (.inl (HP0.out k h))) (fun h => .inr (Nat.le_trans hz h)))⟩, ⟨A4, c4, e4, l4, Kd.F_mono f4 (fun k hk => hk.elim (fun h => .inl (.inr (HQ0.out k h))) (fun h => .inr (by omega)))⟩, HB3.out, ?_⟩
 exact ((Kept.of_below HBX.out _).then_ HK.out (fun k hk => .inl (.inl (HP0.out k hk)))).then_ HK3.out (fun k hk => .inl (.inr (HQ0.out k hk)))
set_option maxHeartbeats 8000000 in
set_option maxRecDepth 100000 in
theorem laws_toNodeS.calls (k : Nat) (A0 : Option Addr) (c0 : Nat) (l0 : List (S24)) (r : List (S32)) (w : World) (hr0 : Kd.C k24 w A0 l0.length l0) (hc0 : l0.length ≤ c0) (h : laws_toNodeS.f k l0 = some r) :
  Calls Try.prog 83 #[.slice A0 l0.length c0] w fun e w' => ∃ v0_ : Value, e = .returned (v0_) ∧ Kd.S k32D 32 w' w.heap.size (fun _ => True) v0_ r ∧ Below w.heap.size w w' := by
 have hu24 := Try.underlying24
 have hu32 := Try.underlying32
 have HR0 := aA.mk hr0
 have HC0 := aA.mk hc0
 clear hr0 hc0
 have HB := aA.mk (Below.refl w.heap.size w)
 have H : (if 0 ≤ (l0.length : Int) then (if ((l0.length : Int) : Int).toNat ≤ 11728124029610 then (laws_toNodeS.l0 k l0 (List.replicate ((l0.length : Int) : Int).toNat z32) 0) else (none)) else (none)) = some r := h
 clear h
 by_cases c2 : 0 ≤ (l0.length : Int)
 ·rw [if_pos c2] at H
  have c2b0 := eq_true c2
  have c2b1 : decide (0 ≤ (l0.length : Int)) = true := decide_eq_true c2
  clear c2
  by_cases c3 : ((l0.length : Int) : Int).toNat ≤ 11728124029610
  ·rw [if_pos c3] at H
   have c3b0 := eq_true c3
   have c3b1 : decide (((l0.length : Int) : Int).toNat ≤ 11728124029610) = true := decide_eq_true c3
   clear c3
   obtain ⟨y178, hy178⟩ : ∃ y_ : List (S32), y_ = (List.replicate ((l0.length : Int) : Int).toNat z32) := ⟨_, rfl⟩
   replace H : (laws_toNodeS.l0 k l0 y178 0) = some r := by first | (rw [hy178]; with_reducible exact H) | (have H2_ := (Option.bind_some _ _).symm.trans H; rw [hy178]; with_reducible exact H2_) | (have H2_ := (Option.bind_some _ _).symm.trans H; with_reducible exact H2_) | with_reducible exact H | (rw [hy178]; exact H) | exact H
   have Ny178 := aA.mk hy178
   clear hy178
   have H' := aA.mk H
   clear H
   go_enter Try.func83, Try.ntmps83
   go_wp2_with (first | ((with_reducible refine aY (N := 7) rfl ?_); refine Kd.S_make k32D _ 32 rfl (N := 7) rfl 56 _ _ rfl (l0.length : Int) rfl rfl Try.underlying56 (.agg #[(.slice none 0 0)]) 24 info32 rfl (by decide) (by omega) z32 (ok := fun _ => True) (okp := fun _ => True) ⟨_, rfl, Kd.S_nil _ _ _ _ _⟩ (fun _ hk => hk) trivial (lE (by first | (with_reducible assumption) | assumption)) (Nat.le_trans (Nat.mul_le_mul_right _ (lE (by first | (with_reducible assumption) | assumption) : (l0.length : Int).toNat ≤ 11728124029610)) (by omega)) (Below.refl _ _) (Nat.le_refl _) ?_; intro v179 w4 ho5 hb hg_ hnew_; clear hg_ hnew_; (first | rw [← Ny178.out] at ho5 | (simp only [Int.reduceToNat] at ho5; rw [← Ny178.out] at ho5)); have n0_ := aA.mk (Kd.S_lower ho5 (aQ (by repeat (first | (with_reducible first | exact HB.out | apply aE | apply aC | apply aD) | exact HB.out)))); have n1_ := aA.mk (aT (by repeat (first | (with_reducible first | exact HB.out | apply aE | apply aC | apply aD) | exact HB.out)) hb); clear HB; have HO180 := n0_; have HB := n1_; clear n0_ n1_; clear hb ho5))
   go_loopg [4] k (fun kq v4 w' => ∃ (x3_1 : List (S32)) (x4_1 : Int), v4 = .int .i64 x4_1 ∧ aA (laws_toNodeS.l0 kq l0 x3_1 x4_1 = some r) ∧ aA (kq ≤ k) ∧ aA (Kd.S k32D 32 w' w.heap.size (fun _ => True) v179 x3_1) ∧ aA (Below w.heap.size w w'))
   case atStart => exact ⟨(y178), (0), (by first | rfl | (simp; done) | (simp [*]; done)), H', ⟨Nat.le_refl _⟩, ⟨by (with_reducible repeat (first | apply Kd.S_alloc | apply Kd.S_drewN | apply Kd.S_drew)); exact HO180.out⟩, ⟨by repeat (first | (with_reducible first | exact HB.out | apply aE | apply aC | apply aD) | exact HB.out)⟩⟩
   case round =>
    clear H'
    try clear c2
    try clear c2b0
    try clear c2b1
    try clear p2
    try clear c3
    try clear c3b0
    try clear c3b1
    obtain ⟨x3_1, x4_1, rfl, HA, HK1, HO_3, HB⟩ := hrel
    cases gk with
    | zero => exact absurd HA.out (by simp [laws_toNodeS.l0])
    | succ k1 =>
     have H := HA.out
     clear HA
     simp only [laws_toNodeS.l0] at H
     by_cases c6 : x4_1 < (l0.length : Int)
     ·rw [if_pos c6] at H
      have c6b0 : decide (x4_1 < (l0.length : Int)) = true := decide_eq_true c6
      clear c6
      by_cases c7 : 0 ≤ x4_1
      ·rw [if_pos c7] at H
       have c7b0 : decide (0 ≤ x4_1) = true := decide_eq_true c7
       clear c7
       replace H := lF H
       obtain ⟨t182, A80, H⟩ := H
       replace H : (if x4_1 < (x3_1.length : Int) then (laws_toNodeS.l0 k1 l0 (x3_1.set (x4_1 : Int).toNat (⟨t182⟩ : S32)) (wrap64 (x4_1 + 1))) else (none)) = some r := H
       have A8 := aA.mk A80
       clear A80
       by_cases c9 : x4_1 < (x3_1.length : Int)
       ·rw [if_pos c9] at H
        have c9b0 : decide (x4_1 < (x3_1.length : Int)) = true := decide_eq_true c9
        clear c9
        obtain ⟨y185, hy185⟩ : ∃ y_ : List (S32), y_ = (x3_1.set (x4_1 : Int).toNat (⟨t182⟩ : S32)) := ⟨_, rfl⟩
        replace H : (laws_toNodeS.l0 k1 l0 y185 (wrap64 (x4_1 + 1))) = some r := by first | (rw [hy185]; with_reducible exact H) | (have H2_ := (Option.bind_some _ _).symm.trans H; rw [hy185]; with_reducible exact H2_) | (have H2_ := (Option.bind_some _ _).symm.trans H; with_reducible exact H2_) | with_reducible exact H | (rw [hy185]; exact H) | exact H
        have Ny185 := aA.mk hy185
        clear hy185
        have H' := aA.mk H
        clear H
        have p181 : 0 ≤ (x4_1 : Int) := lE (by first | (with_reducible assumption) | assumption)
        have q181 : x4_1 < (l0.length : Int) := lE (by first | (with_reducible assumption) | assumption)
        obtain ⟨ad181, A181_0, c181_0, e181, hx181_0, hl181_0, hi181_0⟩ := at_T24 HR0.out x4_1 p181 q181
        cases e181
        replace hx181_0 := (HB.out.cell (lD w _ hx181_0)).trans hx181_0
        have HR181_0 := aA.mk hi181_0
        have HC181_0 := aA.mk hl181_0
        clear hi181_0 hl181_0
        replace p181 := eq_true p181
        replace q181 := eq_true q181
        go_wp2_with (first | ((with_reducible refine aZ (f := 16) rfl ?_); refine goesL_ (some 20) rfl rfl Try.func16 (by kernel_rfl) rfl #[.agg #[.slice A181_0 ((rd_T24 l0 x4_1).f0).length c181_0]] rfl (by (try simp only [List.map_toArray, List.map_cons, List.map_nil]); first | done | rfl | (simp only [List.length_drop, List.length_take]; rfl)) ?_; (with_reducible refine (laws_toNode.calls k1 _ _ ((rd_T24 l0 x4_1).f0) t182 _ ?side1 ?side2 A8.out).mono ?_); (case side1 => repeat (first | exact (Kd.bE HR181_0.out HB.out) | (with_reducible refine Kd.bG ?_ _) | (with_reducible refine Kd.bH ?_ _) | (with_reducible refine Kd.C_drew ?_))); (case side2 => exact HC181_0.out); rintro e w11 ⟨v183, rfl, ho0, hb⟩; refine ⟨_, rfl, ?_⟩; have n0_ := aA.mk (Kd.S_old HO_3.out hb); obtain ⟨bs_, ebs_⟩ : ∃ y_, y_ = wr.heap.size := ⟨_, rfl⟩; rw [← ebs_] at n0_; have n1_ := aA.mk (Kd.S_lower (Kd.S_mono (ok' := fun k_ => bs_ ≤ k_) (Kd.S_bound ho0) (fun k_ hk_ => by rw [ebs_]; exact hk_.2.1)) (aQ (by repeat (first | (with_reducible first | exact HB.out | apply aE | apply aC | apply aD) | exact HB.out)))); have n2_ := aA.mk (aT (by repeat (first | (with_reducible first | exact HB.out | apply aE | apply aC | apply aD) | exact HB.out)) hb); clear HO_3; clear HB; have HO_3 := n0_; have HO184 := n1_; have HB := n2_; clear n0_ n1_ n2_; (try clear hb); (try clear hk); (try clear ho0); have p10 : 0 ≤ (x4_1 : Int) := lE (by first | (with_reducible assumption) | assumption); have q10 : (x4_1 : Int) < ((x3_1.length : Int) : Int) := lE (by first | (with_reducible assumption) | assumption); obtain ⟨go10, co10, eo10, gb10, gl10, cl10, HG10⟩ := Kd.S_form HO_3.out (by omega); (first | cases eo10 | (injection eo10 with ea_ en_ ec_; (first | subst ea_ | (injection ea_ with ea_; subst ea_)); subst ec_; clear en_)); have GB10 := aA.mk gb10; have GG10 := aA.mk HG10; clear gb10 gl10 HG10; obtain ⟨_, ce10, hcl10, hM10, hcc10, hfr10, _, _⟩ := Kd.S_elem HO_3.out z32 (x4_1 : Int) p10 q10; obtain ⟨ve10_0, rfl, ge10_0⟩ := (id hM10); have hx10_0 := hcc10 0 _ rfl; have hf10_0 := hfr10 0; (try simp only [show (k32D).sz = 1 from rfl, Nat.mul_one, Nat.add_zero] at hx10_0); (try simp only [show (k32D).sz = 1 from rfl, Nat.mul_one, Nat.add_zero] at hf10_0); (try clear hcl10); (try clear hcc10); (try clear hfr10); (try clear hM10); replace p10 := eq_true p10; replace q10 := eq_true q10; have HGO12 := aA.mk (show go10 < bs_ from ((Kd.S_R HO_3.out).1 _ rfl).2); have HX12 := aA.mk (show Kd.S k32D 32 w11 w.heap.size (fun k_ => ((fun _ => True)) k_ ∧ ¬ ((fun k_ => bs_ ≤ k_)) k_) (.slice (some ⟨go10, 0, none⟩) x3_1.length co10) x3_1 from Kd.S_mono HO_3.out (fun k_ hk => ⟨trivial, fun e_ => Nat.not_lt_of_le e_ hk.2⟩)); obtain ⟨oki12, ce12, hcl12, hM12, hcc12, hfr12, hoki12, hH12⟩ := Kd.S_elem HX12.out z32 (x4_1 : Int) (lE (by first | (with_reducible assumption) | assumption)) (by have h_ : (x4_1 : Int) < ((x3_1.length : Int) : Int) := lE (by first | (with_reducible assumption) | assumption); first | exact h_ | (have e_ := (Kd.S_reads' HO_3.out).1; omega) | simpa using h_); obtain ⟨ve12_0, rfl, ge12_0⟩ := (id hM12); have HP12 := Kd.S_seg hH12 (lE (by first | (with_reducible assumption) | assumption)) (by have h_ : (x4_1 : Int) < ((x3_1.length : Int) : Int) := lE (by first | (with_reducible assumption) | assumption); first | exact h_ | (have e_ := (Kd.S_reads' HO_3.out).1; omega) | simpa using h_) (seg := [v183]) (j := 0) (show 1 ≤ 1 from by decide) (x' := (⟨t182⟩ : S32)) (okp := fun k_ => bs_ ≤ k_) ⟨_, rfl, HO184.out⟩ (fun _ hk => Or.inr hk) (fun k_ hk_ => ⟨trivial, fun e_ => by rw [e_] at hk_; exact Nat.not_lt_of_le hk_ HGO12.out⟩); have hx12_0 := hcc12 0 _ rfl; (try simp only [show (k32D).sz = 1 from rfl, Nat.mul_one, Nat.add_zero] at hx12_0); have hf12_0 := hfr12 0; (try simp only [show (k32D).sz = 1 from rfl, Nat.mul_one, Nat.add_zero] at hf12_0); (try clear hcl12); (try clear hcc12); (try clear hfr12); (try clear hM12); (try simp only [show (k32D).sz = 1 from rfl, Nat.mul_one, Nat.add_zero] at HP12)) | ((with_reducible refine gate_store (t := 32) (p := 21) rfl ?_); refine store_event (t := 32) (p := 21) (v := ?vo_w13) (w1 := (w11.setCell ⟨go10, (x4_1 : Int).toNat, none⟩ (v183))) ?hg ?ho ?hn ?hr ?_; (case ho => rfl); (case hg => rfl); (case hn => rfl); (case hr => first | (go_simp; done) | (go_simp; rfl) | (obtain ⟨Az_, cz_, ez_, _⟩ := Kd.R_reads HO184.out; subst ez_; go_simp; done) | (obtain ⟨Az_, cz_, ez_, _⟩ := Kd.R_reads HO184.out; subst ez_; go_simp; rfl) | (obtain ⟨Az_, cz_, ez_, _⟩ := Kd.S_reads HO184.out; subst ez_; go_simp; done) | (obtain ⟨Az_, cz_, ez_, _⟩ := Kd.S_reads HO184.out; subst ez_; go_simp; rfl) | (obtain ⟨Az_, cz_, ez_, _⟩ := Kd.N_reads HO184.out; subst ez_; go_simp; done) | (obtain ⟨Az_, cz_, ez_, _⟩ := Kd.N_reads HO184.out; subst ez_; go_simp; rfl) | (obtain ⟨Az_, cz_, ez_, _⟩ := Kd.Q_reads HO184.out; subst ez_; go_simp; done) | (obtain ⟨Az_, cz_, ez_, _⟩ := Kd.Q_reads HO184.out; subst ez_; go_simp; rfl) | (obtain ⟨Az_, cz_, ez_⟩ := Kd.V_slice HO184.out; subst ez_; go_simp; done)); intro w13 hw; have hg : w11.grownBy w13 (some go10) := (by rw [hw]; exact HP12.2); have hp_ : Kd.S k32D 32 w13 w.heap.size (fun _ => True) (.slice (some ⟨go10, 0, none⟩) x3_1.length co10) y185 := (by rw [hw, Ny185.out]; exact HP12.1); clear HP12; have n0_ := aA.mk (hp_); have n1_ := aA.mk ((by rw [hw]; exact aJ (HB.out) GB10.out : Below w.heap.size w w13)); clear HO_3; clear HB; clear HO184; have HO_3 := n0_; have HB := n1_; clear n0_ n1_; clear hg hw hp_))
        go_roundg k1
        case measure => have := HK1.out; omega
        case rel => exact ⟨(y185), (wrap64 (x4_1 + 1)), (by first | rfl | (simp; done) | (simp [*]; done)), H', ⟨by have := HK1.out; omega⟩, ⟨by (with_reducible repeat (first | apply Kd.S_alloc | apply Kd.S_drewN | apply Kd.S_drew)); exact HO_3.out⟩, ⟨by repeat (first | (with_reducible first | exact HB.out | apply aE | apply aC | apply aD) | exact HB.out)⟩⟩
       ·rw [if_neg c9] at H
        exact absurd H (by simp)
      ·rw [if_neg c7] at H
       exact absurd H (by simp)
     ·rw [if_neg c6] at H
      have c6b0 : decide (x4_1 < (l0.length : Int)) = false := decide_eq_false c6
      clear c6
      obtain rfl := Option.some.inj H
      go_wp2
      go_ret
      exact ⟨_, by first | rfl | (simp [errW_none, errW_some] <;> rfl) | (simp [*, errW_none, errW_some] <;> rfl), by (with_reducible repeat (first | apply Kd.S_alloc | apply Kd.S_drewN | apply Kd.S_drew)); exact HO_3.out, by repeat (first | (with_reducible first | exact HB.out | apply aE | apply aC | apply aD) | exact HB.out)⟩
  ·rw [if_neg c3] at H
   exact absurd H (by simp)
 ·rw [if_neg c2] at H
  exact absurd H (by simp)
set_option maxHeartbeats 8000000 in
set_option maxRecDepth 100000 in
theorem walk_toTree (A0_0 : Option Addr) (c0_0 : Nat) (l0_0 : List (Int)) (A0_1 : Option Addr) (c0_1 : Nat) (l0_1 : List (S24)) (k1 : Nat) (k2 : Nat) (r1_0 : List Int) (r2_0 : List (S32)) (w : World) (hr0_0 : Kd.C (Kd.int .i64) w A0_0 l0_0.length l0_0) (hc0_0 : l0_0.length ≤ c0_0) (hr0_1 : Kd.C k24 w A0_1 l0_1.length l0_1) (hc0_1 : l0_1.length ≤ c0_1) (Q1x : laws_toIntS.f k1 l0_0 = some r1_0) (Q2x : laws_toNodeS.f k2 l0_1 = some r2_0) :
  Calls Try.prog 45 #[.agg #[.slice A0_0 l0_0.length c0_0, .slice A0_1 l0_1.length c0_1]] w fun e w' => ∃ v0_ v1_ : Value, e = .returned (.agg #[v0_, v1_]) ∧ Kd.R (Kd.int .i64) 3 w' w.heap.size (fun _ => True) v0_ r1_0 ∧ Kd.S k32D 32 w' w.heap.size (fun _ => True) v1_ r2_0 ∧ Below w.heap.size w w' := by
 have hu58 := Try.underlying58
 have hu65 := Try.underlying65
 have HR0_0 := aA.mk hr0_0
 have HC0_0 := aA.mk hc0_0
 clear hr0_0 hc0_0
 have HR0_1 := aA.mk hr0_1
 have HC0_1 := aA.mk hc0_1
 clear hr0_1 hc0_1
 have Q1 := aA.mk Q1x
 clear Q1x
 have Q2 := aA.mk Q2x
 clear Q2x
 have HB := aA.mk (Below.refl w.heap.size w)
 have HORD := aA.mk (Nat.le_refl w.heap.size)
 have HT := aA.mk (Nat.le_refl w.heap.size)
 go_enter Try.func45, Try.ntmps45
 go_wp2_with (first | ((with_reducible refine aY (N := 1) rfl ?_); refine bA ?hg (N := 1) ?hd (cs := #[.slice A0_0 l0_0.length c0_0, .slice A0_1 l0_1.length c0_1]) (t := 65) ?hr ?_; (case hd => rfl); (case hg => rfl); (case hr => first | (go_simp; done) | (go_simp; rfl)); intro gb1 hg_ w1 hbox hb; have hge_ : w.heap.size ≤ gb1 := (by rw [hg_]; exact HT.out); have hlt_ : gb1 + 1 ≤ w1.heap.size := bD hbox; have n0_ := aA.mk (aT HB.out hb); have n1_ := aA.mk (hbox); have n2_ := aA.mk (And.intro HORD.out (And.intro hge_ (Nat.le_succ gb1))); have n3_ := aA.mk (hlt_); (try clear HB); (try clear BK1); (try clear HORD); (try clear HT); have HB := n0_; have BK1 := n1_; have HORD := n2_; have HT := n3_; clear n0_ n1_ n2_ n3_; clear hb hbox hg_ hge_ hlt_; have hzgb1_0_1 : w1.cell? ⟨gb1, 0, none⟩ = some (.slice A0_0 l0_0.length c0_0) := (aH BK1.out 0).trans rfl; have hygb1_0_1 := aG BK1.out 0; have hzgb1_1_1 : w1.cell? ⟨gb1, 1, none⟩ = some (.slice A0_1 l0_1.length c0_1) := (aH BK1.out 1).trans rfl; have hygb1_1_1 := aG BK1.out 1) | ((with_reducible refine aY (N := 2) rfl ?_); refine bA ?hg (N := 2) ?hd (cs := #[.slice none 0 0, .slice none 0 0]) (t := 58) ?hr ?_; (case hd => rfl); (case hg => rfl); (case hr => first | (go_simp; done) | (go_simp; rfl)); intro gb2 hg_ w2 hbox hb; have hge_ : (gb1 + 1) ≤ gb2 := (by rw [hg_]; exact HT.out); have hlt_ : gb2 + 1 ≤ w2.heap.size := bD hbox; have n0_ := aA.mk (aU BK1.out hb); have n1_ := aA.mk (aT HB.out hb); have n2_ := aA.mk (hbox); have n3_ := aA.mk (And.intro HORD.out (And.intro hge_ (Nat.le_succ gb2))); have n4_ := aA.mk (hlt_); (try clear BK1); (try clear HB); (try clear BK2); (try clear HORD); (try clear HT); have BK1 := n0_; have HB := n1_; have BK2 := n2_; have HORD := n3_; have HT := n4_; clear n0_ n1_ n2_ n3_ n4_; clear hb hbox hg_ hge_ hlt_; have hzgb1_0_2 : w2.cell? ⟨gb1, 0, none⟩ = some (.slice A0_0 l0_0.length c0_0) := (aH BK1.out 0).trans rfl; have hygb1_0_2 := aG BK1.out 0; have hzgb1_1_2 : w2.cell? ⟨gb1, 1, none⟩ = some (.slice A0_1 l0_1.length c0_1) := (aH BK1.out 1).trans rfl; have hygb1_1_2 := aG BK1.out 1; have hzgb2_0_2 : w2.cell? ⟨gb2, 0, none⟩ = some (.slice none 0 0) := (aH BK2.out 0).trans rfl; have hygb2_0_2 := aG BK2.out 0; have hzgb2_1_2 : w2.cell? ⟨gb2, 1, none⟩ = some (.slice none 0 0) := (aH BK2.out 1).trans rfl; have hygb2_1_2 := aG BK2.out 1) | ((with_reducible refine aY (N := 3) rfl ?_); refine bA ?hg (N := 3) ?hd (cs := #[.slice none 0 0, .slice none 0 0]) (t := 58) ?hr ?_; (case hd => rfl); (case hg => rfl); (case hr => first | (go_simp; done) | (go_simp; rfl)); intro gb3 hg_ w3 hbox hb; have hge_ : (gb2 + 1) ≤ gb3 := (by rw [hg_]; exact HT.out); have hlt_ : gb3 + 1 ≤ w3.heap.size := bD hbox; have n0_ := aA.mk (aU BK1.out hb); have n1_ := aA.mk (aU BK2.out hb); have n2_ := aA.mk (aT HB.out hb); have n3_ := aA.mk (hbox); have n4_ := aA.mk (And.intro HORD.out (And.intro hge_ (Nat.le_succ gb3))); have n5_ := aA.mk (hlt_); (try clear BK1); (try clear BK2); (try clear HB); (try clear BK3); (try clear HORD); (try clear HT); have BK1 := n0_; have BK2 := n1_; have HB := n2_; have BK3 := n3_; have HORD := n4_; have HT := n5_; clear n0_ n1_ n2_ n3_ n4_ n5_; clear hb hbox hg_ hge_ hlt_; have hzgb1_0_3 : w3.cell? ⟨gb1, 0, none⟩ = some (.slice A0_0 l0_0.length c0_0) := (aH BK1.out 0).trans rfl; have hygb1_0_3 := aG BK1.out 0; have hzgb1_1_3 : w3.cell? ⟨gb1, 1, none⟩ = some (.slice A0_1 l0_1.length c0_1) := (aH BK1.out 1).trans rfl; have hygb1_1_3 := aG BK1.out 1; have hzgb2_0_3 : w3.cell? ⟨gb2, 0, none⟩ = some (.slice none 0 0) := (aH BK2.out 0).trans rfl; have hygb2_0_3 := aG BK2.out 0; have hzgb2_1_3 : w3.cell? ⟨gb2, 1, none⟩ = some (.slice none 0 0) := (aH BK2.out 1).trans rfl; have hygb2_1_3 := aG BK2.out 1; have hzgb3_0_3 : w3.cell? ⟨gb3, 0, none⟩ = some (.slice none 0 0) := (aH BK3.out 0).trans rfl; have hygb3_0_3 := aG BK3.out 0; have hzgb3_1_3 : w3.cell? ⟨gb3, 1, none⟩ = some (.slice none 0 0) := (aH BK3.out 1).trans rfl; have hygb3_1_3 := aG BK3.out 1) | ((with_reducible refine aZ (f := 82) rfl ?_); refine goesL_ (some 6) rfl rfl Try.func82 (by kernel_rfl) rfl #[.slice A0_0 l0_0.length c0_0] rfl (by (try simp only [List.map_toArray, List.map_cons, List.map_nil]); first | done | rfl | (simp only [List.length_drop, List.length_take]; rfl)) ?_; (with_reducible refine (laws_toIntS.calls k1 _ _ l0_0 r1_0 _ ?s1 ?s2 Q1.out).mono ?_); (case s1 => exact (Kd.bE HR0_0.out HB.out)); (case s2 => exact HC0_0.out); rintro e_ w4 ⟨v0_, rfl, ho0, hb⟩; refine ⟨_, rfl, ?_⟩; obtain ⟨lo4, hi4, el_, eh_, ol_, oh_⟩ := Mem.times HT.out hb; (try rw [← el_] at ho0); obtain ⟨A4_0, c4_0, ev_, hc0_, hf0_, hs0_⟩ := Mem.new_R ho0 eh_; subst ev_; have n0_ := aA.mk (aU BK1.out hb); have n1_ := aA.mk (aU BK2.out hb); have n2_ := aA.mk (aU BK3.out hb); have n3_ := aA.mk (aT HB.out hb); have n4_ := aA.mk (hf0_); have n5_ := aA.mk (hc0_); have n6_ := aA.mk (hs0_); have n7_ := aA.mk (And.intro HORD.out (And.intro ol_ oh_)); have n8_ := aA.mk (Nat.le_of_eq eh_); (try clear BK1); (try clear BK2); (try clear BK3); (try clear HB); (try clear HF4_0); (try clear HC4_0); (try clear HS4_0); (try clear HORD); (try clear HT); have BK1 := n0_; have BK2 := n1_; have BK3 := n2_; have HB := n3_; have HF4_0 := n4_; have HC4_0 := n5_; have HS4_0 := n6_; have HORD := n7_; have HT := n8_; clear n0_ n1_ n2_ n3_ n4_ n5_ n6_ n7_ n8_; clear ol_ oh_ el_ eh_ ho0 hf0_ hc0_ hs0_; (try clear hb); have hzgb1_0_4 : w4.cell? ⟨gb1, 0, none⟩ = some (.slice A0_0 l0_0.length c0_0) := (aH BK1.out 0).trans rfl; have hygb1_0_4 := aG BK1.out 0; have hzgb1_1_4 : w4.cell? ⟨gb1, 1, none⟩ = some (.slice A0_1 l0_1.length c0_1) := (aH BK1.out 1).trans rfl; have hygb1_1_4 := aG BK1.out 1; have hzgb2_0_4 : w4.cell? ⟨gb2, 0, none⟩ = some (.slice none 0 0) := (aH BK2.out 0).trans rfl; have hygb2_0_4 := aG BK2.out 0; have hzgb2_1_4 : w4.cell? ⟨gb2, 1, none⟩ = some (.slice none 0 0) := (aH BK2.out 1).trans rfl; have hygb2_1_4 := aG BK2.out 1; have hzgb3_0_4 : w4.cell? ⟨gb3, 0, none⟩ = some (.slice none 0 0) := (aH BK3.out 0).trans rfl; have hygb3_0_4 := aG BK3.out 0; have hzgb3_1_4 : w4.cell? ⟨gb3, 1, none⟩ = some (.slice none 0 0) := (aH BK3.out 1).trans rfl; have hygb3_1_4 := aG BK3.out 1) | ((with_reducible refine gate_store (t := 55) (p := 7) rfl ?_); refine store_event (t := 55) (p := 7) (v := ?vo_w5) (w1 := (w4.setCell ⟨gb3, 0, none⟩ (.slice A4_0 r1_0.length c4_0))) ?hg ?ho ?hn ?hr ?_; (case ho => rfl); (case hg => rfl); (case hn => rfl); (case hr => first | (go_simp; done) | (go_simp; rfl)); intro w5 hw_; have hkp : Kept w4 w5 (fun k_ => k_ = gb3) := (by rw [hw_]; exact Kept.setCell (Kept.refl w4 (fun k_ => k_ = gb3)) (.inl rfl) (.slice A4_0 r1_0.length c4_0)); have hge_ : w.heap.size ≤ gb3 := (by have o_ := HORD.out; (try unfold In at *); (try show _ ≠ _); omega); have hbn_ : Below w.heap.size w w5 := (by rw [hw_]; exact aJ (HB.out) hge_); have hbk_ : w5.heap[gb3]? = some (.cells #[.slice A4_0 r1_0.length c4_0, .slice none 0 0] 58 (0, 0)) := (by rw [hw_]; exact blk_put (cs := #[.slice none 0 0, .slice none 0 0]) (cs' := #[.slice A4_0 r1_0.length c4_0, .slice none 0 0]) (BK3.out) 0 _ rfl); have hsz_ : hi4 ≤ w5.heap.size := Nat.le_trans HT.out hkp.1; have n0_ := aA.mk (Kd.F_kept HF4_0.out hkp (fun k_ h1_ h2_ => by have o_ := HORD.out; unfold In at h1_; omega)); have n1_ := aA.mk (Kd.R_kept HS4_0.out hkp (fun k_ h1_ h2_ => by have o_ := HORD.out; unfold In at h1_; omega)); have n2_ := aA.mk (blk_kept BK1.out hkp (fun h2_ => by have o_ := HORD.out; omega)); have n3_ := aA.mk (blk_kept BK2.out hkp (fun h2_ => by have o_ := HORD.out; omega)); have n4_ := aA.mk (hbn_); have n5_ := aA.mk (hbk_); have n6_ := aA.mk (hsz_); (try clear HF4_0); (try clear HS4_0); (try clear BK1); (try clear BK2); (try clear HB); (try clear BK3); (try clear HT); have HF4_0 := n0_; have HS4_0 := n1_; have BK1 := n2_; have BK2 := n3_; have HB := n4_; have BK3 := n5_; have HT := n6_; clear n0_ n1_ n2_ n3_ n4_ n5_ n6_; clear hw_ hkp hge_ hbn_ hbk_ hsz_; have hzgb1_0_5 : w5.cell? ⟨gb1, 0, none⟩ = some (.slice A0_0 l0_0.length c0_0) := (aH BK1.out 0).trans rfl; have hygb1_0_5 := aG BK1.out 0; have hzgb1_1_5 : w5.cell? ⟨gb1, 1, none⟩ = some (.slice A0_1 l0_1.length c0_1) := (aH BK1.out 1).trans rfl; have hygb1_1_5 := aG BK1.out 1; have hzgb2_0_5 : w5.cell? ⟨gb2, 0, none⟩ = some (.slice none 0 0) := (aH BK2.out 0).trans rfl; have hygb2_0_5 := aG BK2.out 0; have hzgb2_1_5 : w5.cell? ⟨gb2, 1, none⟩ = some (.slice none 0 0) := (aH BK2.out 1).trans rfl; have hygb2_1_5 := aG BK2.out 1; have hzgb3_0_5 : w5.cell? ⟨gb3, 0, none⟩ = some (.slice A4_0 r1_0.length c4_0) := (aH BK3.out 0).trans rfl; have hygb3_0_5 := aG BK3.out 0; have hzgb3_1_5 : w5.cell? ⟨gb3, 1, none⟩ = some (.slice none 0 0) := (aH BK3.out 1).trans rfl; have hygb3_1_5 := aG BK3.out 1) | ((with_reducible refine aZ (f := 83) rfl ?_); refine goesL_ (some 10) rfl rfl Try.func83 (by kernel_rfl) rfl #[.slice A0_1 l0_1.length c0_1] rfl (by (try simp only [List.map_toArray, List.map_cons, List.map_nil]); first | done | rfl | (simp only [List.length_drop, List.length_take]; rfl)) ?_; (with_reducible refine (laws_toNodeS.calls k2 _ _ l0_1 r2_0 _ ?s1 ?s2 Q2.out).mono ?_); (case s1 => exact (Kd.bE HR0_1.out HB.out)); (case s2 => exact HC0_1.out); rintro e_ w6 ⟨v0_, rfl, ho0, hb⟩; refine ⟨_, rfl, ?_⟩; obtain ⟨lo6, hi6, el_, eh_, ol_, oh_⟩ := Mem.times HT.out hb; (try rw [← el_] at ho0); obtain ⟨A6_0, c6_0, ev_, hc0_, hf0_, hs0_⟩ := Mem.new_S ho0 eh_; subst ev_; have n0_ := aA.mk (Kd.F_below HF4_0.out hb); have n1_ := aA.mk (Kd.R_below HS4_0.out hb); have n2_ := aA.mk (aU BK1.out hb); have n3_ := aA.mk (aU BK2.out hb); have n4_ := aA.mk (aU BK3.out hb); have n5_ := aA.mk (aT HB.out hb); have n6_ := aA.mk (hf0_); have n7_ := aA.mk (hc0_); have n8_ := aA.mk (hs0_); have n9_ := aA.mk (And.intro HORD.out (And.intro ol_ oh_)); have n10_ := aA.mk (Nat.le_of_eq eh_); (try clear HF4_0); (try clear HS4_0); (try clear BK1); (try clear BK2); (try clear BK3); (try clear HB); (try clear HF6_0); (try clear HC6_0); (try clear HS6_0); (try clear HORD); (try clear HT); have HF4_0 := n0_; have HS4_0 := n1_; have BK1 := n2_; have BK2 := n3_; have BK3 := n4_; have HB := n5_; have HF6_0 := n6_; have HC6_0 := n7_; have HS6_0 := n8_; have HORD := n9_; have HT := n10_; clear n0_ n1_ n2_ n3_ n4_ n5_ n6_ n7_ n8_ n9_ n10_; clear ol_ oh_ el_ eh_ ho0 hf0_ hc0_ hs0_; (try clear hb); have hzgb1_0_6 : w6.cell? ⟨gb1, 0, none⟩ = some (.slice A0_0 l0_0.length c0_0) := (aH BK1.out 0).trans rfl; have hygb1_0_6 := aG BK1.out 0; have hzgb1_1_6 : w6.cell? ⟨gb1, 1, none⟩ = some (.slice A0_1 l0_1.length c0_1) := (aH BK1.out 1).trans rfl; have hygb1_1_6 := aG BK1.out 1; have hzgb2_0_6 : w6.cell? ⟨gb2, 0, none⟩ = some (.slice none 0 0) := (aH BK2.out 0).trans rfl; have hygb2_0_6 := aG BK2.out 0; have hzgb2_1_6 : w6.cell? ⟨gb2, 1, none⟩ = some (.slice none 0 0) := (aH BK2.out 1).trans rfl; have hygb2_1_6 := aG BK2.out 1; have hzgb3_0_6 : w6.cell? ⟨gb3, 0, none⟩ = some (.slice A4_0 r1_0.length c4_0) := (aH BK3.out 0).trans rfl; have hygb3_0_6 := aG BK3.out 0; have hzgb3_1_6 : w6.cell? ⟨gb3, 1, none⟩ = some (.slice none 0 0) := (aH BK3.out 1).trans rfl; have hygb3_1_6 := aG BK3.out 1) | ((with_reducible refine gate_store (t := 56) (p := 11) rfl ?_); refine store_event (t := 56) (p := 11) (v := ?vo_w7) (w1 := (w6.setCell ⟨gb3, 1, none⟩ (.slice A6_0 r2_0.length c6_0))) ?hg ?ho ?hn ?hr ?_; (case ho => rfl); (case hg => rfl); (case hn => rfl); (case hr => first | (go_simp; done) | (go_simp; rfl)); intro w7 hw_; have hkp : Kept w6 w7 (fun k_ => k_ = gb3) := (by rw [hw_]; exact Kept.setCell (Kept.refl w6 (fun k_ => k_ = gb3)) (.inl rfl) (.slice A6_0 r2_0.length c6_0)); have hge_ : w.heap.size ≤ gb3 := (by have o_ := HORD.out; (try unfold In at *); (try show _ ≠ _); omega); have hbn_ : Below w.heap.size w w7 := (by rw [hw_]; exact aJ (HB.out) hge_); have hbk_ : w7.heap[gb3]? = some (.cells #[.slice A4_0 r1_0.length c4_0, .slice A6_0 r2_0.length c6_0] 58 (0, 0)) := (by rw [hw_]; exact blk_put (cs := #[.slice A4_0 r1_0.length c4_0, .slice none 0 0]) (cs' := #[.slice A4_0 r1_0.length c4_0, .slice A6_0 r2_0.length c6_0]) (BK3.out) 1 _ rfl); have hsz_ : hi6 ≤ w7.heap.size := Nat.le_trans HT.out hkp.1; have n0_ := aA.mk (Kd.F_kept HF4_0.out hkp (fun k_ h1_ h2_ => by have o_ := HORD.out; unfold In at h1_; omega)); have n1_ := aA.mk (Kd.R_kept HS4_0.out hkp (fun k_ h1_ h2_ => by have o_ := HORD.out; unfold In at h1_; omega)); have n2_ := aA.mk (Kd.F_kept HF6_0.out hkp (fun k_ h1_ h2_ => by have o_ := HORD.out; unfold In at h1_; omega)); have n3_ := aA.mk (Kd.S_kept HS6_0.out hkp (fun k_ h1_ h2_ => by have o_ := HORD.out; unfold In at h1_; omega)); have n4_ := aA.mk (blk_kept BK1.out hkp (fun h2_ => by have o_ := HORD.out; omega)); have n5_ := aA.mk (blk_kept BK2.out hkp (fun h2_ => by have o_ := HORD.out; omega)); have n6_ := aA.mk (hbn_); have n7_ := aA.mk (hbk_); have n8_ := aA.mk (hsz_); (try clear HF4_0); (try clear HS4_0); (try clear HF6_0); (try clear HS6_0); (try clear BK1); (try clear BK2); (try clear HB); (try clear BK3); (try clear HT); have HF4_0 := n0_; have HS4_0 := n1_; have HF6_0 := n2_; have HS6_0 := n3_; have BK1 := n4_; have BK2 := n5_; have HB := n6_; have BK3 := n7_; have HT := n8_; clear n0_ n1_ n2_ n3_ n4_ n5_ n6_ n7_ n8_; clear hw_ hkp hge_ hbn_ hbk_ hsz_; have hzgb1_0_7 : w7.cell? ⟨gb1, 0, none⟩ = some (.slice A0_0 l0_0.length c0_0) := (aH BK1.out 0).trans rfl; have hygb1_0_7 := aG BK1.out 0; have hzgb1_1_7 : w7.cell? ⟨gb1, 1, none⟩ = some (.slice A0_1 l0_1.length c0_1) := (aH BK1.out 1).trans rfl; have hygb1_1_7 := aG BK1.out 1; have hzgb2_0_7 : w7.cell? ⟨gb2, 0, none⟩ = some (.slice none 0 0) := (aH BK2.out 0).trans rfl; have hygb2_0_7 := aG BK2.out 0; have hzgb2_1_7 : w7.cell? ⟨gb2, 1, none⟩ = some (.slice none 0 0) := (aH BK2.out 1).trans rfl; have hygb2_1_7 := aG BK2.out 1; have hzgb3_0_7 : w7.cell? ⟨gb3, 0, none⟩ = some (.slice A4_0 r1_0.length c4_0) := (aH BK3.out 0).trans rfl; have hygb3_0_7 := aG BK3.out 0; have hzgb3_1_7 : w7.cell? ⟨gb3, 1, none⟩ = some (.slice A6_0 r2_0.length c6_0) := (aH BK3.out 1).trans rfl; have hygb3_1_7 := aG BK3.out 1) | ((with_reducible refine gate_store (t := 58) (p := 2) rfl ?_); refine store_event (t := 58) (p := 2) (v := ?vo_w8) (w1 := ((w7.setCell ⟨gb2, 0, none⟩ (.slice A4_0 r1_0.length c4_0)).setCell ⟨gb2, 1, none⟩ (.slice A6_0 r2_0.length c6_0))) ?hg ?ho ?hn ?hr ?_; (case ho => rfl); (case hg => rfl); (case hn => rfl); (case hr => first | (go_simp; done) | (go_simp; rfl)); intro w8 hw_; have hkp : Kept w7 w8 (fun k_ => k_ = gb2) := (by rw [hw_]; exact Kept.setCell (Kept.setCell (Kept.refl w7 (fun k_ => k_ = gb2)) (.inl rfl) (.slice A4_0 r1_0.length c4_0)) (.inl rfl) (.slice A6_0 r2_0.length c6_0)); have hge_ : w.heap.size ≤ gb2 := (by have o_ := HORD.out; (try unfold In at *); (try show _ ≠ _); omega); have hbn_ : Below w.heap.size w w8 := (by rw [hw_]; exact aJ (aJ (HB.out) hge_) hge_); have hbk_ : w8.heap[gb2]? = some (.cells #[.slice A4_0 r1_0.length c4_0, .slice A6_0 r2_0.length c6_0] 58 (0, 0)) := (by rw [hw_]; exact blk_put (cs := #[.slice A4_0 r1_0.length c4_0, .slice none 0 0]) (cs' := #[.slice A4_0 r1_0.length c4_0, .slice A6_0 r2_0.length c6_0]) (blk_put (cs := #[.slice none 0 0, .slice none 0 0]) (cs' := #[.slice A4_0 r1_0.length c4_0, .slice none 0 0]) (BK2.out) 0 _ rfl) 1 _ rfl); have hsz_ : hi6 ≤ w8.heap.size := Nat.le_trans HT.out hkp.1; have n0_ := aA.mk (Kd.F_kept HF4_0.out hkp (fun k_ h1_ h2_ => by have o_ := HORD.out; unfold In at h1_; omega)); have n1_ := aA.mk (Kd.R_kept HS4_0.out hkp (fun k_ h1_ h2_ => by have o_ := HORD.out; unfold In at h1_; omega)); have n2_ := aA.mk (Kd.F_kept HF6_0.out hkp (fun k_ h1_ h2_ => by have o_ := HORD.out; unfold In at h1_; omega)); have n3_ := aA.mk (Kd.S_kept HS6_0.out hkp (fun k_ h1_ h2_ => by have o_ := HORD.out; unfold In at h1_; omega)); have n4_ := aA.mk (blk_kept BK1.out hkp (fun h2_ => by have o_ := HORD.out; omega)); have n5_ := aA.mk (blk_kept BK3.out hkp (fun h2_ => by have o_ := HORD.out; omega)); have n6_ := aA.mk (hbn_); have n7_ := aA.mk (hbk_); have n8_ := aA.mk (hsz_); (try clear HF4_0); (try clear HS4_0); (try clear HF6_0); (try clear HS6_0); (try clear BK1); (try clear BK3); (try clear HB); (try clear BK2); (try clear HT); have HF4_0 := n0_; have HS4_0 := n1_; have HF6_0 := n2_; have HS6_0 := n3_; have BK1 := n4_; have BK3 := n5_; have HB := n6_; have BK2 := n7_; have HT := n8_; clear n0_ n1_ n2_ n3_ n4_ n5_ n6_ n7_ n8_; clear hw_ hkp hge_ hbn_ hbk_ hsz_; have hzgb1_0_8 : w8.cell? ⟨gb1, 0, none⟩ = some (.slice A0_0 l0_0.length c0_0) := (aH BK1.out 0).trans rfl; have hygb1_0_8 := aG BK1.out 0; have hzgb1_1_8 : w8.cell? ⟨gb1, 1, none⟩ = some (.slice A0_1 l0_1.length c0_1) := (aH BK1.out 1).trans rfl; have hygb1_1_8 := aG BK1.out 1; have hzgb2_0_8 : w8.cell? ⟨gb2, 0, none⟩ = some (.slice A4_0 r1_0.length c4_0) := (aH BK2.out 0).trans rfl; have hygb2_0_8 := aG BK2.out 0; have hzgb2_1_8 : w8.cell? ⟨gb2, 1, none⟩ = some (.slice A6_0 r2_0.length c6_0) := (aH BK2.out 1).trans rfl; have hygb2_1_8 := aG BK2.out 1; have hzgb3_0_8 : w8.cell? ⟨gb3, 0, none⟩ = some (.slice A4_0 r1_0.length c4_0) := (aH BK3.out 0).trans rfl; have hygb3_0_8 := aG BK3.out 0; have hzgb3_1_8 : w8.cell? ⟨gb3, 1, none⟩ = some (.slice A6_0 r2_0.length c6_0) := (aH BK3.out 1).trans rfl; have hygb3_1_8 := aG BK3.out 1))
 refine bodyPost_ret (fn := Try.f45) (P := Try.prog) (results_cell_row rfl _ _ gb2 58 #[.slice A4_0 r1_0.length c4_0, .slice A6_0 r2_0.length c6_0] (0, 0) _ rfl BK2.out Try.underlying58 rfl (by kernel_rfl)) rfl ?_
 exact ⟨_, _, rfl, Kd.bF (Kd.R_lower HS4_0.out (by have o_ := HORD.out; (try unfold In at *); (try show _ ≠ _); omega)) (fun _ _ => trivial), Kd.S_mono (Kd.S_lower HS6_0.out (by have o_ := HORD.out; (try unfold In at *); (try show _ ≠ _); omega)) (fun _ _ => trivial), HB.out⟩
theorem laws_toTree.calls (k : Nat) (A0_0 : Option Addr) (c0_0 : Nat) (l0_0 : List Int) (A0_1 : Option Addr) (c0_1 : Nat) (l0_1 : List (S24)) (r1 : List Int) (r2 : List (S32)) (w : World) (hr0_0 : Kd.C (Kd.int .i64) w A0_0 l0_0.length l0_0) (hc0_0 : l0_0.length ≤ c0_0) (hr0_1 : Kd.C k24 w A0_1 l0_1.length l0_1) (hc0_1 : l0_1.length ≤ c0_1) (h : laws_toTree.f k l0_0 l0_1 = some (r1, r2)) :
  Calls Try.prog 45 #[.agg #[.slice A0_0 l0_0.length c0_0, .slice A0_1 l0_1.length c0_1]] w fun e w' => ∃ v0_ v1_ : Value, e = .returned (.agg #[v0_, v1_]) ∧ Kd.R (Kd.int .i64) 3 w' w.heap.size (fun _ => True) v0_ r1 ∧ Kd.S k32D 32 w' w.heap.size (fun _ => True) v1_ r2 ∧ Below w.heap.size w w' := by
 unfold laws_toTree.f at h
 obtain ⟨t1, A1, h⟩ := lF h
 obtain ⟨t2, A2, h⟩ := lF h
 replace h := Option.some.inj h
 simp only [Prod.mk.injEq] at h
 obtain ⟨rfl, rfl⟩ := h
 exact walk_toTree _ _ _ _ _ _ _ _ _ _ w hr0_0 hc0_0 hr0_1 hc0_1 A1 A2
set_option maxHeartbeats 8000000 in
set_option maxRecDepth 100000 in
theorem walkFnExactTreeKeysbig (A0_0 : Option Addr) (c0_0 : Nat) (l0_0 : List (Int)) (A0_1 : Option Addr) (c0_1 : Nat) (l0_1 : List (S24)) (k1 : Nat) (r1_0 : Int) (w : World) (hr0_0 : Kd.C (Kd.int .i64) w A0_0 l0_0.length l0_0) (hc0_0 : l0_0.length ≤ c0_0) (hr0_1 : Kd.C k24 w A0_1 l0_1.length l0_1) (hc0_1 : l0_1.length ≤ c0_1) (Q1x : laws_szTree.f k1 l0_0 l0_1 1048576 = some r1_0) (pr1_0 : r1_0 < 0) :
  Calls Try.prog 12 #[.agg #[.slice A0_0 l0_0.length c0_0, .slice A0_1 l0_1.length c0_1]] w fun e w' => e = .returned (.bool true) ∧ Below w.heap.size w w' := by
 have hu65 := Try.underlying65
 have HR0_0 := aA.mk hr0_0
 have HC0_0 := aA.mk hc0_0
 clear hr0_0 hc0_0
 have HR0_1 := aA.mk hr0_1
 have HC0_1 := aA.mk hc0_1
 clear hr0_1 hc0_1
 have Q1 := aA.mk Q1x
 clear Q1x
 have dr1_0 : decide (r1_0 < 0) = true := by simp; omega
 clear pr1_0
 have HB := aA.mk (Below.refl w.heap.size w)
 have HORD := aA.mk (Nat.le_refl w.heap.size)
 have HT := aA.mk (Nat.le_refl w.heap.size)
 go_enter Try.func12, Try.ntmps12
 go_wp2_with (first | ((with_reducible refine aY (N := 1) rfl ?_); refine bA ?hg (N := 1) ?hd (cs := #[.slice A0_0 l0_0.length c0_0, .slice A0_1 l0_1.length c0_1]) (t := 65) ?hr ?_; (case hd => rfl); (case hg => rfl); (case hr => first | (go_simp; done) | (go_simp; rfl)); intro gb1 hg_ w1 hbox hb; have hge_ : w.heap.size ≤ gb1 := (by rw [hg_]; exact HT.out); have hlt_ : gb1 + 1 ≤ w1.heap.size := bD hbox; have n0_ := aA.mk (aT HB.out hb); have n1_ := aA.mk (hbox); have n2_ := aA.mk (And.intro HORD.out (And.intro hge_ (Nat.le_succ gb1))); have n3_ := aA.mk (hlt_); (try clear HB); (try clear BK1); (try clear HORD); (try clear HT); have HB := n0_; have BK1 := n1_; have HORD := n2_; have HT := n3_; clear n0_ n1_ n2_ n3_; clear hb hbox hg_ hge_ hlt_; have hzgb1_0_1 : w1.cell? ⟨gb1, 0, none⟩ = some (.slice A0_0 l0_0.length c0_0) := (aH BK1.out 0).trans rfl; have hygb1_0_1 := aG BK1.out 0; have hzgb1_1_1 : w1.cell? ⟨gb1, 1, none⟩ = some (.slice A0_1 l0_1.length c0_1) := (aH BK1.out 1).trans rfl; have hygb1_1_1 := aG BK1.out 1) | ((with_reducible refine aZ (f := 43) rfl ?_); refine goesL_ (some 13) rfl rfl Try.func43 (by kernel_rfl) rfl #[.agg #[.slice A0_0 l0_0.length c0_0, .slice A0_1 l0_1.length c0_1], .int .i64 1048576] rfl (by (try simp only [List.map_toArray, List.map_cons, List.map_nil]); first | done | rfl | (simp only [List.length_drop, List.length_take]; rfl)) ?_; (with_reducible refine (laws_szTree.calls k1 _ _ l0_0 _ _ l0_1 1048576 r1_0 _ ?s1 ?s2 ?s3 ?s4 Q1.out).mono ?_); (case s1 => exact (Kd.bE HR0_0.out HB.out)); (case s2 => exact HC0_0.out); (case s3 => exact (Kd.bE HR0_1.out HB.out)); (case s4 => exact HC0_1.out); rintro e_ w2 ⟨rfl, hb⟩; refine ⟨_, rfl, ?_⟩; have n0_ := aA.mk (aU BK1.out hb); have n1_ := aA.mk (aT HB.out hb); have n2_ := aA.mk (Nat.le_trans HT.out hb.size); (try clear BK1); (try clear HB); (try clear HT); have BK1 := n0_; have HB := n1_; have HT := n2_; clear n0_ n1_ n2_; (try clear hb); have hzgb1_0_2 : w2.cell? ⟨gb1, 0, none⟩ = some (.slice A0_0 l0_0.length c0_0) := (aH BK1.out 0).trans rfl; have hygb1_0_2 := aG BK1.out 0; have hzgb1_1_2 : w2.cell? ⟨gb1, 1, none⟩ = some (.slice A0_1 l0_1.length c0_1) := (aH BK1.out 1).trans rfl; have hygb1_1_2 := aG BK1.out 1))
 have hres_ := @results_tmp Try.f12 2 (by kernel_rfl)
 refine bodyPost_ret (fn := Try.f12) (P := Try.prog) (hres_ _ _ _) rfl ?_
 exact ⟨rfl, HB.out⟩
set_option maxHeartbeats 8000000 in
set_option maxRecDepth 100000 in
theorem walkFnExactTreeKeys (A0_0 : Option Addr) (c0_0 : Nat) (l0_0 : List (Int)) (A0_1 : Option Addr) (c0_1 : Nat) (l0_1 : List (S24)) (k1 : Nat) (k2 : Nat) (k3 : Nat) (k4 : Nat) (k5 : Nat) (k6 : Nat) (k8 : Nat) (k9 : Nat) (r1_0 : Int) (r2_1 : List Int) (r2_2 : List (S32)) (r3_0 : List (S27)) (r4_0 : List (S27)) (r7_1 : Int) (r7_2 : List Int) (r7_3 : List S32) (r8_1 : Int) (r8_2 : List (S27)) (w : World) (hr0_0 : Kd.C (Kd.int .i64) w A0_0 l0_0.length l0_0) (hc0_0 : l0_0.length ≤ c0_0) (hr0_1 : Kd.C k24 w A0_1 l0_1.length l0_1) (hc0_1 : l0_1.length ≤ c0_1) (Q1x : laws_szTree.f k1 l0_0 l0_1 1048576 = some r1_0) (Q2x : laws_toTree.f k2 l0_0 l0_1 = some (r2_1, r2_2)) (Q3x : spec_TreeKeys.f k3 r2_1 r2_2 = some r3_0) (Q4x : impl_TreeKeys.f k4 r2_1 r2_2 = some r4_0) (Q5x : laws_eqKeyS.f k5 r4_0 r3_0 = some true) (Q6x : laws_eqTree.f k6 r2_1 r2_2 r2_1 r2_2 = some true) (Q7x : laws_markTree.f r2_1 r2_2 1 = some (r7_1, r7_2, r7_3)) (Q8x : laws_markKeyS.f k8 r4_0 1 = some (r8_1, r8_2)) (Q9x : laws_heldKeyS.f k9 r8_2 1 = some r8_1) (pr1_0 : 0 ≤ r1_0) (pr7_1 : 0 ≤ r7_1) (pr8_1 : 0 ≤ r8_1) :
  Calls Try.prog 12 #[.agg #[.slice A0_0 l0_0.length c0_0, .slice A0_1 l0_1.length c0_1]] w fun e w' => e = .returned (.bool true) ∧ Below w.heap.size w w' := by
 have hu58 := Try.underlying58
 have hu65 := Try.underlying65
 have HR0_0 := aA.mk hr0_0
 have HC0_0 := aA.mk hc0_0
 clear hr0_0 hc0_0
 have HR0_1 := aA.mk hr0_1
 have HC0_1 := aA.mk hc0_1
 clear hr0_1 hc0_1
 have Q1 := aA.mk Q1x
 clear Q1x
 have Q2 := aA.mk Q2x
 clear Q2x
 have Q3 := aA.mk Q3x
 clear Q3x
 have Q4 := aA.mk Q4x
 clear Q4x
 have Q5 := aA.mk Q5x
 clear Q5x
 have Q6 := aA.mk Q6x
 clear Q6x
 have Q7 := aA.mk Q7x
 clear Q7x
 have Q8 := aA.mk Q8x
 clear Q8x
 have Q9 := aA.mk Q9x
 clear Q9x
 have dr1_0 : decide (r1_0 < 0) = false := by simp; omega
 clear pr1_0
 have dr7_1 : decide (r7_1 < 0) = false := by simp; omega
 clear pr7_1
 have dr8_1 : decide (r8_1 < 0) = false := by simp; omega
 clear pr8_1
 have HB := aA.mk (Below.refl w.heap.size w)
 have HORD := aA.mk (Nat.le_refl w.heap.size)
 have HT := aA.mk (Nat.le_refl w.heap.size)
 go_enter Try.func12, Try.ntmps12
 go_wp2_with (first | ((with_reducible refine aY (N := 1) rfl ?_); refine bA ?hg (N := 1) ?hd (cs := #[.slice A0_0 l0_0.length c0_0, .slice A0_1 l0_1.length c0_1]) (t := 65) ?hr ?_; (case hd => rfl); (case hg => rfl); (case hr => first | (go_simp; done) | (go_simp; rfl)); intro gb1 hg_ w1 hbox hb; have hge_ : w.heap.size ≤ gb1 := (by rw [hg_]; exact HT.out); have hlt_ : gb1 + 1 ≤ w1.heap.size := bD hbox; have n0_ := aA.mk (aT HB.out hb); have n1_ := aA.mk (hbox); have n2_ := aA.mk (And.intro HORD.out (And.intro hge_ (Nat.le_succ gb1))); have n3_ := aA.mk (hlt_); (try clear HB); (try clear BK1); (try clear HORD); (try clear HT); have HB := n0_; have BK1 := n1_; have HORD := n2_; have HT := n3_; clear n0_ n1_ n2_ n3_; clear hb hbox hg_ hge_ hlt_; have hzgb1_0_1 : w1.cell? ⟨gb1, 0, none⟩ = some (.slice A0_0 l0_0.length c0_0) := (aH BK1.out 0).trans rfl; have hygb1_0_1 := aG BK1.out 0; have hzgb1_1_1 : w1.cell? ⟨gb1, 1, none⟩ = some (.slice A0_1 l0_1.length c0_1) := (aH BK1.out 1).trans rfl; have hygb1_1_1 := aG BK1.out 1) | ((with_reducible refine aZ (f := 43) rfl ?_); refine goesL_ (some 13) rfl rfl Try.func43 (by kernel_rfl) rfl #[.agg #[.slice A0_0 l0_0.length c0_0, .slice A0_1 l0_1.length c0_1], .int .i64 1048576] rfl (by (try simp only [List.map_toArray, List.map_cons, List.map_nil]); first | done | rfl | (simp only [List.length_drop, List.length_take]; rfl)) ?_; (with_reducible refine (laws_szTree.calls k1 _ _ l0_0 _ _ l0_1 1048576 r1_0 _ ?s1 ?s2 ?s3 ?s4 Q1.out).mono ?_); (case s1 => exact (Kd.bE HR0_0.out HB.out)); (case s2 => exact HC0_0.out); (case s3 => exact (Kd.bE HR0_1.out HB.out)); (case s4 => exact HC0_1.out); rintro e_ w2 ⟨rfl, hb⟩; refine ⟨_, rfl, ?_⟩; have n0_ := aA.mk (aU BK1.out hb); have n1_ := aA.mk (aT HB.out hb); have n2_ := aA.mk (Nat.le_trans HT.out hb.size); (try clear BK1); (try clear HB); (try clear HT); have BK1 := n0_; have HB := n1_; have HT := n2_; clear n0_ n1_ n2_; (try clear hb); have hzgb1_0_2 : w2.cell? ⟨gb1, 0, none⟩ = some (.slice A0_0 l0_0.length c0_0) := (aH BK1.out 0).trans rfl; have hygb1_0_2 := aG BK1.out 0; have hzgb1_1_2 : w2.cell? ⟨gb1, 1, none⟩ = some (.slice A0_1 l0_1.length c0_1) := (aH BK1.out 1).trans rfl; have hygb1_1_2 := aG BK1.out 1) | ((with_reducible refine aZ (f := 45) rfl ?_); refine goesL_ (some 17) rfl rfl Try.func45 (by kernel_rfl) rfl #[.agg #[.slice A0_0 l0_0.length c0_0, .slice A0_1 l0_1.length c0_1]] rfl (by (try simp only [List.map_toArray, List.map_cons, List.map_nil]); first | done | rfl | (simp only [List.length_drop, List.length_take]; rfl)) ?_; (with_reducible refine (laws_toTree.calls k2 _ _ l0_0 _ _ l0_1 r2_1 r2_2 _ ?s1 ?s2 ?s3 ?s4 Q2.out).mono ?_); (case s1 => exact (Kd.bE HR0_0.out HB.out)); (case s2 => exact HC0_0.out); (case s3 => exact (Kd.bE HR0_1.out HB.out)); (case s4 => exact HC0_1.out); rintro e_ w3 ⟨v0_, v1_, rfl, ho0, ho1, hb⟩; refine ⟨_, rfl, ?_⟩; obtain ⟨lo3, hi3, el_, eh_, ol_, oh_⟩ := Mem.times HT.out hb; (try rw [← el_] at ho0); obtain ⟨A3_0, c3_0, ev_, hc0_, hf0_, hs0_⟩ := Mem.new_R ho0 eh_; subst ev_; (try rw [← el_] at ho1); obtain ⟨A3_1, c3_1, ev_, hc1_, hf1_, hs1_⟩ := Mem.new_S ho1 eh_; subst ev_; have n0_ := aA.mk (aU BK1.out hb); have n1_ := aA.mk (aT HB.out hb); have n2_ := aA.mk (hf0_); have n3_ := aA.mk (hc0_); have n4_ := aA.mk (hs0_); have n5_ := aA.mk (hf1_); have n6_ := aA.mk (hc1_); have n7_ := aA.mk (hs1_); have n8_ := aA.mk (And.intro HORD.out (And.intro ol_ oh_)); have n9_ := aA.mk (Nat.le_of_eq eh_); (try clear BK1); (try clear HB); (try clear HF3_0); (try clear HC3_0); (try clear HS3_0); (try clear HF3_1); (try clear HC3_1); (try clear HS3_1); (try clear HORD); (try clear HT); have BK1 := n0_; have HB := n1_; have HF3_0 := n2_; have HC3_0 := n3_; have HS3_0 := n4_; have HF3_1 := n5_; have HC3_1 := n6_; have HS3_1 := n7_; have HORD := n8_; have HT := n9_; clear n0_ n1_ n2_ n3_ n4_ n5_ n6_ n7_ n8_ n9_; clear ol_ oh_ el_ eh_ ho0 hf0_ hc0_ hs0_ ho1 hf1_ hc1_ hs1_; (try clear hb); have hzgb1_0_3 : w3.cell? ⟨gb1, 0, none⟩ = some (.slice A0_0 l0_0.length c0_0) := (aH BK1.out 0).trans rfl; have hygb1_0_3 := aG BK1.out 0; have hzgb1_1_3 : w3.cell? ⟨gb1, 1, none⟩ = some (.slice A0_1 l0_1.length c0_1) := (aH BK1.out 1).trans rfl; have hygb1_1_3 := aG BK1.out 1) | ((with_reducible refine aZ (f := 49) rfl ?_); refine goesL_ (some 18) rfl rfl Try.func49 (by kernel_rfl) rfl #[.agg #[.slice A3_0 r2_1.length c3_0, .slice A3_1 r2_2.length c3_1]] rfl (by (try simp only [List.map_toArray, List.map_cons, List.map_nil]); first | done | rfl | (simp only [List.length_drop, List.length_take]; rfl)) ?_; (with_reducible refine (spec_TreeKeys.calls k3 _ _ r2_1 _ _ r2_2 r3_0 _ ?s1 ?s2 ?s3 ?s4 Q3.out).mono ?_); (case s1 => exact (Kd.F_now HF3_0.out)); (case s2 => exact HC3_0.out); (case s3 => exact (Kd.F_now HF3_1.out)); (case s4 => exact HC3_1.out); rintro e_ w4 ⟨v0_, rfl, ho0, hb⟩; refine ⟨_, rfl, ?_⟩; obtain ⟨lo4, hi4, el_, eh_, ol_, oh_⟩ := Mem.times HT.out hb; (try rw [← el_] at ho0); obtain ⟨A4_0, c4_0, ev_, hc0_, hf0_, hs0_⟩ := Mem.new_R ho0 eh_; subst ev_; have n0_ := aA.mk (aU BK1.out hb); have n1_ := aA.mk (aT HB.out hb); have n2_ := aA.mk (hf0_); have n3_ := aA.mk (hc0_); have n4_ := aA.mk (hs0_); have n5_ := aA.mk (And.intro HORD.out (And.intro ol_ oh_)); have n6_ := aA.mk (Nat.le_of_eq eh_); (try clear HF3_0); (try clear HS3_0); (try clear HC3_0); (try clear HF3_1); (try clear HS3_1); (try clear HC3_1); (try clear BK1); (try clear HB); (try clear HF4_0); (try clear HC4_0); (try clear HS4_0); (try clear HORD); (try clear HT); have BK1 := n0_; have HB := n1_; have HF4_0 := n2_; have HC4_0 := n3_; have HS4_0 := n4_; have HORD := n5_; have HT := n6_; clear n0_ n1_ n2_ n3_ n4_ n5_ n6_; clear ol_ oh_ el_ eh_ ho0 hf0_ hc0_ hs0_; (try clear hb); have hzgb1_0_4 : w4.cell? ⟨gb1, 0, none⟩ = some (.slice A0_0 l0_0.length c0_0) := (aH BK1.out 0).trans rfl; have hygb1_0_4 := aG BK1.out 0; have hzgb1_1_4 : w4.cell? ⟨gb1, 1, none⟩ = some (.slice A0_1 l0_1.length c0_1) := (aH BK1.out 1).trans rfl; have hygb1_1_4 := aG BK1.out 1) | ((with_reducible refine aZ (f := 45) rfl ?_); refine goesL_ (some 20) rfl rfl Try.func45 (by kernel_rfl) rfl #[.agg #[.slice A0_0 l0_0.length c0_0, .slice A0_1 l0_1.length c0_1]] rfl (by (try simp only [List.map_toArray, List.map_cons, List.map_nil]); first | done | rfl | (simp only [List.length_drop, List.length_take]; rfl)) ?_; (with_reducible refine (laws_toTree.calls k2 _ _ l0_0 _ _ l0_1 r2_1 r2_2 _ ?s1 ?s2 ?s3 ?s4 Q2.out).mono ?_); (case s1 => exact (Kd.bE HR0_0.out HB.out)); (case s2 => exact HC0_0.out); (case s3 => exact (Kd.bE HR0_1.out HB.out)); (case s4 => exact HC0_1.out); rintro e_ w5 ⟨v0_, v1_, rfl, ho0, ho1, hb⟩; refine ⟨_, rfl, ?_⟩; obtain ⟨lo5, hi5, el_, eh_, ol_, oh_⟩ := Mem.times HT.out hb; (try rw [← el_] at ho0); obtain ⟨A5_0, c5_0, ev_, hc0_, hf0_, hs0_⟩ := Mem.new_R ho0 eh_; subst ev_; (try rw [← el_] at ho1); obtain ⟨A5_1, c5_1, ev_, hc1_, hf1_, hs1_⟩ := Mem.new_S ho1 eh_; subst ev_; have n0_ := aA.mk (Kd.F_below HF4_0.out hb); have n1_ := aA.mk (Kd.R_below HS4_0.out hb); have n2_ := aA.mk (aU BK1.out hb); have n3_ := aA.mk (aT HB.out hb); have n4_ := aA.mk (hf0_); have n5_ := aA.mk (hc0_); have n6_ := aA.mk (hs0_); have n7_ := aA.mk (hf1_); have n8_ := aA.mk (hc1_); have n9_ := aA.mk (hs1_); have n10_ := aA.mk (And.intro HORD.out (And.intro ol_ oh_)); have n11_ := aA.mk (Nat.le_of_eq eh_); (try clear HF4_0); (try clear HS4_0); (try clear BK1); (try clear HB); (try clear HF5_0); (try clear HC5_0); (try clear HS5_0); (try clear HF5_1); (try clear HC5_1); (try clear HS5_1); (try clear HORD); (try clear HT); have HF4_0 := n0_; have HS4_0 := n1_; have BK1 := n2_; have HB := n3_; have HF5_0 := n4_; have HC5_0 := n5_; have HS5_0 := n6_; have HF5_1 := n7_; have HC5_1 := n8_; have HS5_1 := n9_; have HORD := n10_; have HT := n11_; clear n0_ n1_ n2_ n3_ n4_ n5_ n6_ n7_ n8_ n9_ n10_ n11_; clear ol_ oh_ el_ eh_ ho0 hf0_ hc0_ hs0_ ho1 hf1_ hc1_ hs1_; (try clear hb); have hzgb1_0_5 : w5.cell? ⟨gb1, 0, none⟩ = some (.slice A0_0 l0_0.length c0_0) := (aH BK1.out 0).trans rfl; have hygb1_0_5 := aG BK1.out 0; have hzgb1_1_5 : w5.cell? ⟨gb1, 1, none⟩ = some (.slice A0_1 l0_1.length c0_1) := (aH BK1.out 1).trans rfl; have hygb1_1_5 := aG BK1.out 1) | ((with_reducible refine aY (N := 5) rfl ?_); refine bA ?hg (N := 5) ?hd (cs := #[.slice none 0 0, .slice none 0 0]) (t := 58) ?hr ?_; (case hd => rfl); (case hg => rfl); (case hr => first | (go_simp; done) | (go_simp; rfl)); intro gb6 hg_ w6 hbox hb; have hge_ : hi5 ≤ gb6 := (by rw [hg_]; exact HT.out); have hlt_ : gb6 + 1 ≤ w6.heap.size := bD hbox; have n0_ := aA.mk (Kd.F_below HF4_0.out hb); have n1_ := aA.mk (Kd.R_below HS4_0.out hb); have n2_ := aA.mk (Kd.F_below HF5_0.out hb); have n3_ := aA.mk (Kd.R_below HS5_0.out hb); have n4_ := aA.mk (Kd.F_below HF5_1.out hb); have n5_ := aA.mk (Kd.S_below HS5_1.out hb); have n6_ := aA.mk (aU BK1.out hb); have n7_ := aA.mk (aT HB.out hb); have n8_ := aA.mk (hbox); have n9_ := aA.mk (And.intro HORD.out (And.intro hge_ (Nat.le_succ gb6))); have n10_ := aA.mk (hlt_); (try clear HF4_0); (try clear HS4_0); (try clear HF5_0); (try clear HS5_0); (try clear HF5_1); (try clear HS5_1); (try clear BK1); (try clear HB); (try clear BK6); (try clear HORD); (try clear HT); have HF4_0 := n0_; have HS4_0 := n1_; have HF5_0 := n2_; have HS5_0 := n3_; have HF5_1 := n4_; have HS5_1 := n5_; have BK1 := n6_; have HB := n7_; have BK6 := n8_; have HORD := n9_; have HT := n10_; clear n0_ n1_ n2_ n3_ n4_ n5_ n6_ n7_ n8_ n9_ n10_; clear hb hbox hg_ hge_ hlt_; have hzgb1_0_6 : w6.cell? ⟨gb1, 0, none⟩ = some (.slice A0_0 l0_0.length c0_0) := (aH BK1.out 0).trans rfl; have hygb1_0_6 := aG BK1.out 0; have hzgb1_1_6 : w6.cell? ⟨gb1, 1, none⟩ = some (.slice A0_1 l0_1.length c0_1) := (aH BK1.out 1).trans rfl; have hygb1_1_6 := aG BK1.out 1; have hzgb6_0_6 : w6.cell? ⟨gb6, 0, none⟩ = some (.slice none 0 0) := (aH BK6.out 0).trans rfl; have hygb6_0_6 := aG BK6.out 0; have hzgb6_1_6 : w6.cell? ⟨gb6, 1, none⟩ = some (.slice none 0 0) := (aH BK6.out 1).trans rfl; have hygb6_1_6 := aG BK6.out 1) | ((with_reducible refine gate_store (t := 58) (p := 5) rfl ?_); refine store_event (t := 58) (p := 5) (v := ?vo_w7) (w1 := ((w6.setCell ⟨gb6, 0, none⟩ (.slice A5_0 r2_1.length c5_0)).setCell ⟨gb6, 1, none⟩ (.slice A5_1 r2_2.length c5_1))) ?hg ?ho ?hn ?hr ?_; (case ho => rfl); (case hg => rfl); (case hn => rfl); (case hr => first | (go_simp; done) | (go_simp; rfl)); intro w7 hw_; have hkp : Kept w6 w7 (fun k_ => k_ = gb6) := (by rw [hw_]; exact Kept.setCell (Kept.setCell (Kept.refl w6 (fun k_ => k_ = gb6)) (.inl rfl) (.slice A5_0 r2_1.length c5_0)) (.inl rfl) (.slice A5_1 r2_2.length c5_1)); have hge_ : w.heap.size ≤ gb6 := (by have o_ := HORD.out; (try unfold In at *); (try show _ ≠ _); omega); have hbn_ : Below w.heap.size w w7 := (by rw [hw_]; exact aJ (aJ (HB.out) hge_) hge_); have hbk_ : w7.heap[gb6]? = some (.cells #[.slice A5_0 r2_1.length c5_0, .slice A5_1 r2_2.length c5_1] 58 (0, 0)) := (by rw [hw_]; exact blk_put (cs := #[.slice A5_0 r2_1.length c5_0, .slice none 0 0]) (cs' := #[.slice A5_0 r2_1.length c5_0, .slice A5_1 r2_2.length c5_1]) (blk_put (cs := #[.slice none 0 0, .slice none 0 0]) (cs' := #[.slice A5_0 r2_1.length c5_0, .slice none 0 0]) (BK6.out) 0 _ rfl) 1 _ rfl); have hsz_ : (gb6 + 1) ≤ w7.heap.size := Nat.le_trans HT.out hkp.1; have n0_ := aA.mk (Kd.F_kept HF4_0.out hkp (fun k_ h1_ h2_ => by have o_ := HORD.out; unfold In at h1_; omega)); have n1_ := aA.mk (Kd.R_kept HS4_0.out hkp (fun k_ h1_ h2_ => by have o_ := HORD.out; unfold In at h1_; omega)); have n2_ := aA.mk (Kd.F_kept HF5_0.out hkp (fun k_ h1_ h2_ => by have o_ := HORD.out; unfold In at h1_; omega)); have n3_ := aA.mk (Kd.R_kept HS5_0.out hkp (fun k_ h1_ h2_ => by have o_ := HORD.out; unfold In at h1_; omega)); have n4_ := aA.mk (Kd.F_kept HF5_1.out hkp (fun k_ h1_ h2_ => by have o_ := HORD.out; unfold In at h1_; omega)); have n5_ := aA.mk (Kd.S_kept HS5_1.out hkp (fun k_ h1_ h2_ => by have o_ := HORD.out; unfold In at h1_; omega)); have n6_ := aA.mk (blk_kept BK1.out hkp (fun h2_ => by have o_ := HORD.out; omega)); have n7_ := aA.mk (hbn_); have n8_ := aA.mk (hbk_); have n9_ := aA.mk (hsz_); (try clear HF4_0); (try clear HS4_0); (try clear HF5_0); (try clear HS5_0); (try clear HF5_1); (try clear HS5_1); (try clear BK1); (try clear HB); (try clear BK6); (try clear HT); have HF4_0 := n0_; have HS4_0 := n1_; have HF5_0 := n2_; have HS5_0 := n3_; have HF5_1 := n4_; have HS5_1 := n5_; have BK1 := n6_; have HB := n7_; have BK6 := n8_; have HT := n9_; clear n0_ n1_ n2_ n3_ n4_ n5_ n6_ n7_ n8_ n9_; clear hw_ hkp hge_ hbn_ hbk_ hsz_; have hzgb1_0_7 : w7.cell? ⟨gb1, 0, none⟩ = some (.slice A0_0 l0_0.length c0_0) := (aH BK1.out 0).trans rfl; have hygb1_0_7 := aG BK1.out 0; have hzgb1_1_7 : w7.cell? ⟨gb1, 1, none⟩ = some (.slice A0_1 l0_1.length c0_1) := (aH BK1.out 1).trans rfl; have hygb1_1_7 := aG BK1.out 1; have hzgb6_0_7 : w7.cell? ⟨gb6, 0, none⟩ = some (.slice A5_0 r2_1.length c5_0) := (aH BK6.out 0).trans rfl; have hygb6_0_7 := aG BK6.out 0; have hzgb6_1_7 : w7.cell? ⟨gb6, 1, none⟩ = some (.slice A5_1 r2_2.length c5_1) := (aH BK6.out 1).trans rfl; have hygb6_1_7 := aG BK6.out 1) | ((with_reducible refine aZ (f := 50) rfl ?_); refine goesL_ (some 22) rfl rfl Try.func50 (by kernel_rfl) rfl #[.agg #[.slice A5_0 r2_1.length c5_0, .slice A5_1 r2_2.length c5_1]] rfl (by (try simp only [List.map_toArray, List.map_cons, List.map_nil]); first | done | rfl | (simp only [List.length_drop, List.length_take]; rfl)) ?_; (with_reducible refine (impl_TreeKeys.calls k4 _ _ r2_1 _ _ r2_2 r4_0 _ ?s1 ?s2 ?s3 ?s4 Q4.out).mono ?_); (case s1 => exact (Kd.F_now HF5_0.out)); (case s2 => exact HC5_0.out); (case s3 => exact (Kd.F_now HF5_1.out)); (case s4 => exact HC5_1.out); rintro e_ w8 ⟨v0_, rfl, ho0, hb⟩; refine ⟨_, rfl, ?_⟩; obtain ⟨lo8, hi8, el_, eh_, ol_, oh_⟩ := Mem.times HT.out hb; (try rw [← el_] at ho0); obtain ⟨A8_0, c8_0, ev_, hc0_, hf0_, hs0_⟩ := Mem.new_R ho0 eh_; subst ev_; have n0_ := aA.mk (Kd.F_below HF4_0.out hb); have n1_ := aA.mk (Kd.R_below HS4_0.out hb); have n2_ := aA.mk (Kd.F_below HF5_0.out hb); have n3_ := aA.mk (Kd.R_below HS5_0.out hb); have n4_ := aA.mk (Kd.F_below HF5_1.out hb); have n5_ := aA.mk (Kd.S_below HS5_1.out hb); have n6_ := aA.mk (aU BK1.out hb); have n7_ := aA.mk (aU BK6.out hb); have n8_ := aA.mk (aT HB.out hb); have n9_ := aA.mk (hf0_); have n10_ := aA.mk (hc0_); have n11_ := aA.mk (hs0_); have n12_ := aA.mk (And.intro HORD.out (And.intro ol_ oh_)); have n13_ := aA.mk (Nat.le_of_eq eh_); (try clear HF4_0); (try clear HS4_0); (try clear HF5_0); (try clear HS5_0); (try clear HF5_1); (try clear HS5_1); (try clear BK1); (try clear BK6); (try clear HB); (try clear HF8_0); (try clear HC8_0); (try clear HS8_0); (try clear HORD); (try clear HT); have HF4_0 := n0_; have HS4_0 := n1_; have HF5_0 := n2_; have HS5_0 := n3_; have HF5_1 := n4_; have HS5_1 := n5_; have BK1 := n6_; have BK6 := n7_; have HB := n8_; have HF8_0 := n9_; have HC8_0 := n10_; have HS8_0 := n11_; have HORD := n12_; have HT := n13_; clear n0_ n1_ n2_ n3_ n4_ n5_ n6_ n7_ n8_ n9_ n10_ n11_ n12_ n13_; clear ol_ oh_ el_ eh_ ho0 hf0_ hc0_ hs0_; (try clear hb); have hzgb1_0_8 : w8.cell? ⟨gb1, 0, none⟩ = some (.slice A0_0 l0_0.length c0_0) := (aH BK1.out 0).trans rfl; have hygb1_0_8 := aG BK1.out 0; have hzgb1_1_8 : w8.cell? ⟨gb1, 1, none⟩ = some (.slice A0_1 l0_1.length c0_1) := (aH BK1.out 1).trans rfl; have hygb1_1_8 := aG BK1.out 1; have hzgb6_0_8 : w8.cell? ⟨gb6, 0, none⟩ = some (.slice A5_0 r2_1.length c5_0) := (aH BK6.out 0).trans rfl; have hygb6_0_8 := aG BK6.out 0; have hzgb6_1_8 : w8.cell? ⟨gb6, 1, none⟩ = some (.slice A5_1 r2_2.length c5_1) := (aH BK6.out 1).trans rfl; have hygb6_1_8 := aG BK6.out 1) | ((with_reducible refine aZ (f := 24) rfl ?_); refine goesL_ (some 25) rfl rfl Try.func24 (by kernel_rfl) rfl #[.slice A8_0 r4_0.length c8_0, .slice A4_0 r3_0.length c4_0] rfl (by (try simp only [List.map_toArray, List.map_cons, List.map_nil]); first | done | rfl | (simp only [List.length_drop, List.length_take]; rfl)) ?_; (with_reducible refine (laws_eqKeyS.calls k5 _ _ r4_0 _ _ r3_0 true _ ?s1 ?s2 ?s3 ?s4 Q5.out).mono ?_); (case s1 => exact (Kd.F_now HF8_0.out)); (case s2 => exact HC8_0.out); (case s3 => exact (Kd.F_now HF4_0.out)); (case s4 => exact HC4_0.out); rintro e_ w9 ⟨rfl, hb⟩; refine ⟨_, rfl, ?_⟩; have n0_ := aA.mk (Kd.F_below HF4_0.out hb); have n1_ := aA.mk (Kd.R_below HS4_0.out hb); have n2_ := aA.mk (Kd.F_below HF5_0.out hb); have n3_ := aA.mk (Kd.R_below HS5_0.out hb); have n4_ := aA.mk (Kd.F_below HF5_1.out hb); have n5_ := aA.mk (Kd.S_below HS5_1.out hb); have n6_ := aA.mk (Kd.F_below HF8_0.out hb); have n7_ := aA.mk (Kd.R_below HS8_0.out hb); have n8_ := aA.mk (aU BK1.out hb); have n9_ := aA.mk (aU BK6.out hb); have n10_ := aA.mk (aT HB.out hb); have n11_ := aA.mk (Nat.le_trans HT.out hb.size); (try clear HF4_0); (try clear HS4_0); (try clear HF5_0); (try clear HS5_0); (try clear HF5_1); (try clear HS5_1); (try clear HF8_0); (try clear HS8_0); (try clear BK1); (try clear BK6); (try clear HB); (try clear HT); have HF4_0 := n0_; have HS4_0 := n1_; have HF5_0 := n2_; have HS5_0 := n3_; have HF5_1 := n4_; have HS5_1 := n5_; have HF8_0 := n6_; have HS8_0 := n7_; have BK1 := n8_; have BK6 := n9_; have HB := n10_; have HT := n11_; clear n0_ n1_ n2_ n3_ n4_ n5_ n6_ n7_ n8_ n9_ n10_ n11_; (try clear hb); have hzgb1_0_9 : w9.cell? ⟨gb1, 0, none⟩ = some (.slice A0_0 l0_0.length c0_0) := (aH BK1.out 0).trans rfl; have hygb1_0_9 := aG BK1.out 0; have hzgb1_1_9 : w9.cell? ⟨gb1, 1, none⟩ = some (.slice A0_1 l0_1.length c0_1) := (aH BK1.out 1).trans rfl; have hygb1_1_9 := aG BK1.out 1; have hzgb6_0_9 : w9.cell? ⟨gb6, 0, none⟩ = some (.slice A5_0 r2_1.length c5_0) := (aH BK6.out 0).trans rfl; have hygb6_0_9 := aG BK6.out 0; have hzgb6_1_9 : w9.cell? ⟨gb6, 1, none⟩ = some (.slice A5_1 r2_2.length c5_1) := (aH BK6.out 1).trans rfl; have hygb6_1_9 := aG BK6.out 1))
 have n_ := aA.mk (Kd.F_drew HF4_0.out)
 clear HF4_0
 have HF4_0 := n_
 clear n_
 have n_ := aA.mk (Kd.aX HS4_0.out)
 clear HS4_0
 have HS4_0 := n_
 clear n_
 have n_ := aA.mk (Kd.F_drew HF5_0.out)
 clear HF5_0
 have HF5_0 := n_
 clear n_
 have n_ := aA.mk (Kd.aX HS5_0.out)
 clear HS5_0
 have HS5_0 := n_
 clear n_
 have n_ := aA.mk (Kd.F_drew HF5_1.out)
 clear HF5_1
 have HF5_1 := n_
 clear n_
 have n_ := aA.mk (Kd.S_drew HS5_1.out)
 clear HS5_1
 have HS5_1 := n_
 clear n_
 have n_ := aA.mk (Kd.F_drew HF8_0.out)
 clear HF8_0
 have HF8_0 := n_
 clear n_
 have n_ := aA.mk (Kd.aX HS8_0.out)
 clear HS8_0
 have HS8_0 := n_
 clear n_
 have n_ := aA.mk (aN BK1.out)
 clear BK1
 have BK1 := n_
 clear n_
 have n_ := aA.mk (aN BK6.out)
 clear BK6
 have BK6 := n_
 clear n_
 have n_ := aA.mk (aD HB.out)
 clear HB
 have HB := n_
 clear n_
 have n_ := aA.mk (show _ ≤ w9.drew.heap.size from HT.out)
 clear HT
 have HT := n_
 clear n_
 refine start_ (n := 5) (S := fun w' => w'.cell? ⟨gb6, 0, none⟩ = some (.slice A5_0 r2_1.length c5_0) ∧ w'.cell? ⟨gb6, 1, none⟩ = some (.slice A5_1 r2_2.length c5_1) ∧ w'.cell? ⟨gb1, 0, none⟩ = some (.slice A0_0 l0_0.length c0_0) ∧ w'.cell? ⟨gb1, 1, none⟩ = some (.slice A0_1 l0_1.length c0_1)) (ds := []) #[false, false, false, false, false] (by kernel_rfl) rfl rfl ⟨(aH BK6.out 0).trans rfl, (aH BK6.out 1).trans rfl, (aH BK1.out 0).trans rfl, (aH BK1.out 1).trans rfl⟩ (fun hHeld => ?_)
 generalize w9.drew = w10 at HF4_0 HS4_0 HF5_0 HS5_0 HF5_1 HS5_1 HF8_0 HS8_0 BK1 BK6 HB HT hHeld ⊢
 refine take_ (i := 0) (N := some 27) (v := ?_) (a' := ?_) #[true, false, false, false, false] rfl rfl (by kernel_rfl) (fun _ _ _ h => h) (Or.inl ⟨by rfl, ?_⟩) hHeld ?_ ?_
 rotate_left
 ·rintro w' ⟨s0, s1, s2, s3⟩
  go_simp
  with_reducible rfl
 rotate_left
 ·simp only [Act.put, lA, lB, lC, bC, bB]
  rfl
 refine take_ (i := 1) (N := some 28) (v := ?_) (a' := ?_) #[true, true, false, false, false] rfl rfl (by kernel_rfl) (fun _ _ _ h => h) (Or.inl ⟨by rfl, ?_⟩) hHeld ?_ ?_
 rotate_left
 ·rintro w' ⟨s0, s1, s2, s3⟩
  go_simp
  with_reducible rfl
 rotate_left
 ·simp only [Act.put, lA, lB, lC, bC, bB]
  rfl
 refine one_ (i := 2) (N := some 29) #[true, true, true, false, false] rfl rfl (by kernel_rfl) (by decide) (fun K hK => ?_)
 refine goes_ Try.func45 (by kernel_rfl) rfl #[.agg #[.slice A0_0 l0_0.length c0_0, .slice A0_1 l0_1.length c0_1]] (by rfl) rfl rfl (by (try simp only [List.map_toArray, List.map_cons, List.map_nil]); first | done | rfl | (simp only [List.length_drop, List.length_take]; rfl)) ?_
 (with_reducible refine (laws_toTree.calls k2 _ _ l0_0 _ _ l0_1 r2_1 r2_2 _ ?s1 ?s2 ?s3 ?s4 Q2.out).mono ?_)
 (case s1 => exact (Kd.bE HR0_0.out HB.out))
 (case s2 => exact HC0_0.out)
 (case s3 => exact (Kd.bE HR0_1.out HB.out))
 (case s4 => exact HC0_1.out)
 rintro e_ w11 ⟨v0_, v1_, rfl, ho0, ho1, hb⟩
 refine ⟨_, rfl, ?_⟩
 obtain ⟨lo11, hi11, el_, eh_, ol_, oh_⟩ := Mem.times HT.out hb
 (try rw [← el_] at ho0)
 obtain ⟨A11_0, c11_0, ev_, hc0_, hf0_, hs0_⟩ := Mem.new_R ho0 eh_
 subst ev_
 (try rw [← el_] at ho1)
 obtain ⟨A11_1, c11_1, ev_, hc1_, hf1_, hs1_⟩ := Mem.new_S ho1 eh_
 subst ev_
 have n0_ := aA.mk (Kd.F_below HF4_0.out hb)
 have n1_ := aA.mk (Kd.R_below HS4_0.out hb)
 have n2_ := aA.mk (Kd.F_below HF5_0.out hb)
 have n3_ := aA.mk (Kd.R_below HS5_0.out hb)
 have n4_ := aA.mk (Kd.F_below HF5_1.out hb)
 have n5_ := aA.mk (Kd.S_below HS5_1.out hb)
 have n6_ := aA.mk (Kd.F_below HF8_0.out hb)
 have n7_ := aA.mk (Kd.R_below HS8_0.out hb)
 have n8_ := aA.mk (aU BK1.out hb)
 have n9_ := aA.mk (aU BK6.out hb)
 have n10_ := aA.mk (aT HB.out hb)
 have n11_ := aA.mk (hf0_)
 have n12_ := aA.mk (hc0_)
 have n13_ := aA.mk (hs0_)
 have n14_ := aA.mk (hf1_)
 have n15_ := aA.mk (hc1_)
 have n16_ := aA.mk (hs1_)
 have n17_ := aA.mk (And.intro HORD.out (And.intro ol_ oh_))
 have n18_ := aA.mk (Nat.le_of_eq eh_)
 (try clear HF4_0)
 (try clear HS4_0)
 (try clear HF5_0)
 (try clear HS5_0)
 (try clear HF5_1)
 (try clear HS5_1)
 (try clear HF8_0)
 (try clear HS8_0)
 (try clear BK1)
 (try clear BK6)
 (try clear HB)
 (try clear HF11_0)
 (try clear HC11_0)
 (try clear HS11_0)
 (try clear HF11_1)
 (try clear HC11_1)
 (try clear HS11_1)
 (try clear HORD)
 (try clear HT)
 have HF4_0 := n0_
 have HS4_0 := n1_
 have HF5_0 := n2_
 have HS5_0 := n3_
 have HF5_1 := n4_
 have HS5_1 := n5_
 have HF8_0 := n6_
 have HS8_0 := n7_
 have BK1 := n8_
 have BK6 := n9_
 have HB := n10_
 have HF11_0 := n11_
 have HC11_0 := n12_
 have HS11_0 := n13_
 have HF11_1 := n14_
 have HC11_1 := n15_
 have HS11_1 := n16_
 have HORD := n17_
 have HT := n18_
 clear n0_ n1_ n2_ n3_ n4_ n5_ n6_ n7_ n8_ n9_ n10_ n11_ n12_ n13_ n14_ n15_ n16_ n17_ n18_
 clear ol_ oh_ el_ eh_ ho0 hf0_ hc0_ hs0_ ho1 hf1_ hc1_ hs1_
 (try clear hb)
 refine hK.out _ _ ⟨(aH BK6.out 0).trans rfl, (aH BK6.out 1).trans rfl, (aH BK1.out 0).trans rfl, (aH BK1.out 1).trans rfl⟩ (fun hHeld => ?_)
 clear hK K
 refine norm_ (a' := ?_) ?_ ?_
 rotate_left
 ·show Act.put _ (some 29) _ = _
  simp only [Act.put, lA, lB, lC, bC, bB]
  rfl
 refine one_ (i := 3) (N := some 30) #[true, true, true, true, false] rfl rfl (by kernel_rfl) (by decide) (fun K hK => ?_)
 refine goes_ Try.func40 (by kernel_rfl) rfl #[.agg #[.slice A5_0 r2_1.length c5_0, .slice A5_1 r2_2.length c5_1], .agg #[.slice A11_0 r2_1.length c11_0, .slice A11_1 r2_2.length c11_1]] (by rfl) rfl rfl (by (try simp only [List.map_toArray, List.map_cons, List.map_nil]); first | done | rfl | (simp only [List.length_drop, List.length_take]; rfl)) ?_
 (with_reducible refine (laws_eqTree.calls k6 _ _ r2_1 _ _ r2_2 _ _ r2_1 _ _ r2_2 true _ ?s1 ?s2 ?s3 ?s4 ?s5 ?s6 ?s7 ?s8 Q6.out).mono ?_)
 (case s1 => exact (Kd.F_now HF5_0.out))
 (case s2 => exact HC5_0.out)
 (case s3 => exact (Kd.F_now HF5_1.out))
 (case s4 => exact HC5_1.out)
 (case s5 => exact (Kd.F_now HF11_0.out))
 (case s6 => exact HC11_0.out)
 (case s7 => exact (Kd.F_now HF11_1.out))
 (case s8 => exact HC11_1.out)
 rintro e_ w12 ⟨rfl, hb⟩
 refine ⟨_, rfl, ?_⟩
 have n0_ := aA.mk (Kd.F_below HF4_0.out hb)
 have n1_ := aA.mk (Kd.R_below HS4_0.out hb)
 have n2_ := aA.mk (Kd.F_below HF5_0.out hb)
 have n3_ := aA.mk (Kd.R_below HS5_0.out hb)
 have n4_ := aA.mk (Kd.F_below HF5_1.out hb)
 have n5_ := aA.mk (Kd.S_below HS5_1.out hb)
 have n6_ := aA.mk (Kd.F_below HF8_0.out hb)
 have n7_ := aA.mk (Kd.R_below HS8_0.out hb)
 have n8_ := aA.mk (aU BK1.out hb)
 have n9_ := aA.mk (aU BK6.out hb)
 have n10_ := aA.mk (aT HB.out hb)
 have n11_ := aA.mk (Nat.le_trans HT.out hb.size)
 (try clear HF11_0)
 (try clear HS11_0)
 (try clear HC11_0)
 (try clear HF11_1)
 (try clear HS11_1)
 (try clear HC11_1)
 (try clear HF4_0)
 (try clear HS4_0)
 (try clear HF5_0)
 (try clear HS5_0)
 (try clear HF5_1)
 (try clear HS5_1)
 (try clear HF8_0)
 (try clear HS8_0)
 (try clear BK1)
 (try clear BK6)
 (try clear HB)
 (try clear HT)
 have HF4_0 := n0_
 have HS4_0 := n1_
 have HF5_0 := n2_
 have HS5_0 := n3_
 have HF5_1 := n4_
 have HS5_1 := n5_
 have HF8_0 := n6_
 have HS8_0 := n7_
 have BK1 := n8_
 have BK6 := n9_
 have HB := n10_
 have HT := n11_
 clear n0_ n1_ n2_ n3_ n4_ n5_ n6_ n7_ n8_ n9_ n10_ n11_
 (try clear hb)
 refine hK.out _ _ ⟨(aH BK6.out 0).trans rfl, (aH BK6.out 1).trans rfl, (aH BK1.out 0).trans rfl, (aH BK1.out 1).trans rfl⟩ (fun hHeld => ?_)
 clear hK K
 refine norm_ (a' := ?_) ?_ ?_
 rotate_left
 ·show Act.put _ (some 30) _ = _
  simp only [Act.put, lA, lB, lC, bC, bB]
  rfl
 refine pure_ (i := 4) (N := some 31) (v := ?_) (a' := ?_) #[true, true, true, true, true] rfl rfl (by kernel_rfl) (fun _ _ _ h => h) (Or.inl ⟨by rfl, ?_⟩) ?_ ?_
 rotate_left
 ·intro w'
  go_simp
  with_reducible rfl
 rotate_left
 ·simp only [Act.put, lA, lB, lC, bC, bB]
  rfl
 refine done_ (by kernel_rfl) ?_
 have hzgb1_0_12 : w12.cell? ⟨gb1, 0, none⟩ = some (.slice A0_0 l0_0.length c0_0) := (aH BK1.out 0).trans rfl
 have hygb1_0_12 := aG BK1.out 0
 have hzgb1_1_12 : w12.cell? ⟨gb1, 1, none⟩ = some (.slice A0_1 l0_1.length c0_1) := (aH BK1.out 1).trans rfl
 have hygb1_1_12 := aG BK1.out 1
 have hzgb6_0_12 : w12.cell? ⟨gb6, 0, none⟩ = some (.slice A5_0 r2_1.length c5_0) := (aH BK6.out 0).trans rfl
 have hygb6_0_12 := aG BK6.out 0
 have hzgb6_1_12 : w12.cell? ⟨gb6, 1, none⟩ = some (.slice A5_1 r2_2.length c5_1) := (aH BK6.out 1).trans rfl
 have hygb6_1_12 := aG BK6.out 1
 go_wp2_with (first | ((with_reducible refine aZ (f := 41) rfl ?_); refine goesL_ (some 34) rfl rfl Try.func41 (by kernel_rfl) rfl #[.agg #[.slice A5_0 r2_1.length c5_0, .slice A5_1 r2_2.length c5_1], .int .i64 1] rfl (by (try simp only [List.map_toArray, List.map_cons, List.map_nil]); first | done | rfl | (simp only [List.length_drop, List.length_take]; rfl)) ?_; (with_reducible refine (laws_markTree.calls (In lo5 hi5) (In lo5 hi5) (.slice A5_0 r2_1.length c5_0) (.slice A5_1 r2_2.length c5_1) r2_1 r2_2 1 r7_1 r7_2 r7_3 w _ ?s1 ?s2 ?s3 Q7.out).mono ?_); (case s1 => exact HB.out); (case s2 => exact Kd.R_lower HS5_0.out (by have o_ := HORD.out; omega)); (case s3 => exact Kd.S_lower HS5_1.out (by have o_ := HORD.out; omega)); rintro e_ w13 ⟨rfl, ho0, ho1, hbn_, hkp⟩; refine ⟨_, rfl, ?_⟩; have hkq : Kept w12 w13 (In lo5 hi5) := Kept.mono hkp (fun k_ h_ => by first | exact h_ | (have o_ := HORD.out; (try unfold In at *); omega)); have n0_ := aA.mk (Kd.F_kept HF4_0.out hkq (fun k_ h1_ h2_ => by have o_ := HORD.out; unfold In at h1_ h2_; omega)); have n1_ := aA.mk (Kd.R_kept HS4_0.out hkq (fun k_ h1_ h2_ => by have o_ := HORD.out; unfold In at h1_ h2_; omega)); have n2_ := aA.mk (Kd.F_kept HF8_0.out hkq (fun k_ h1_ h2_ => by have o_ := HORD.out; unfold In at h1_ h2_; omega)); have n3_ := aA.mk (Kd.R_kept HS8_0.out hkq (fun k_ h1_ h2_ => by have o_ := HORD.out; unfold In at h1_ h2_; omega)); have n4_ := aA.mk (blk_kept BK1.out hkq (fun h2_ => by have o_ := HORD.out; unfold In at h2_; omega)); have n5_ := aA.mk (blk_kept BK6.out hkq (fun h2_ => by have o_ := HORD.out; unfold In at h2_; omega)); have n6_ := aA.mk (hbn_); have n7_ := aA.mk (Nat.le_trans HT.out hkq.1); (try clear HF5_0); (try clear HS5_0); (try clear HC5_0); (try clear HF5_1); (try clear HS5_1); (try clear HC5_1); (try clear HF4_0); (try clear HS4_0); (try clear HF8_0); (try clear HS8_0); (try clear BK1); (try clear BK6); (try clear HB); (try clear HT); have HF4_0 := n0_; have HS4_0 := n1_; have HF8_0 := n2_; have HS8_0 := n3_; have BK1 := n4_; have BK6 := n5_; have HB := n6_; have HT := n7_; clear n0_ n1_ n2_ n3_ n4_ n5_ n6_ n7_; clear hbn_ hkp hkq ho0 ho1; have hzgb1_0_13 : w13.cell? ⟨gb1, 0, none⟩ = some (.slice A0_0 l0_0.length c0_0) := (aH BK1.out 0).trans rfl; have hygb1_0_13 := aG BK1.out 0; have hzgb1_1_13 : w13.cell? ⟨gb1, 1, none⟩ = some (.slice A0_1 l0_1.length c0_1) := (aH BK1.out 1).trans rfl; have hygb1_1_13 := aG BK1.out 1; have hzgb6_0_13 : w13.cell? ⟨gb6, 0, none⟩ = some (.slice A5_0 r2_1.length c5_0) := (aH BK6.out 0).trans rfl; have hygb6_0_13 := aG BK6.out 0; have hzgb6_1_13 : w13.cell? ⟨gb6, 1, none⟩ = some (.slice A5_1 r2_2.length c5_1) := (aH BK6.out 1).trans rfl; have hygb6_1_13 := aG BK6.out 1) | ((with_reducible refine aZ (f := 24) rfl ?_); refine gate_guard (by first | rfl | kernel_rfl) ?_; refine goesL_ (some 40) rfl rfl Try.func24 (by kernel_rfl) rfl #[.slice A8_0 r4_0.length c8_0, .slice A4_0 r3_0.length c4_0] rfl (by (try simp only [List.map_toArray, List.map_cons, List.map_nil]); first | done | rfl | (simp only [List.length_drop, List.length_take]; rfl)) ?_; (with_reducible refine (laws_eqKeyS.calls k5 _ _ r4_0 _ _ r3_0 true _ ?s1 ?s2 ?s3 ?s4 Q5.out).mono ?_); (case s1 => exact (Kd.F_now HF8_0.out)); (case s2 => exact HC8_0.out); (case s3 => exact (Kd.F_now HF4_0.out)); (case s4 => exact HC4_0.out); rintro e_ w14 ⟨rfl, hb⟩; refine ⟨_, rfl, ?_⟩; have n0_ := aA.mk (Kd.F_below HF4_0.out hb); have n1_ := aA.mk (Kd.R_below HS4_0.out hb); have n2_ := aA.mk (Kd.F_below HF8_0.out hb); have n3_ := aA.mk (Kd.R_below HS8_0.out hb); have n4_ := aA.mk (aU BK1.out hb); have n5_ := aA.mk (aU BK6.out hb); have n6_ := aA.mk (aT HB.out hb); have n7_ := aA.mk (Nat.le_trans HT.out hb.size); (try clear HF4_0); (try clear HS4_0); (try clear HF8_0); (try clear HS8_0); (try clear BK1); (try clear BK6); (try clear HB); (try clear HT); have HF4_0 := n0_; have HS4_0 := n1_; have HF8_0 := n2_; have HS8_0 := n3_; have BK1 := n4_; have BK6 := n5_; have HB := n6_; have HT := n7_; clear n0_ n1_ n2_ n3_ n4_ n5_ n6_ n7_; (try clear hb); have hzgb1_0_14 : w14.cell? ⟨gb1, 0, none⟩ = some (.slice A0_0 l0_0.length c0_0) := (aH BK1.out 0).trans rfl; have hygb1_0_14 := aG BK1.out 0; have hzgb1_1_14 : w14.cell? ⟨gb1, 1, none⟩ = some (.slice A0_1 l0_1.length c0_1) := (aH BK1.out 1).trans rfl; have hygb1_1_14 := aG BK1.out 1; have hzgb6_0_14 : w14.cell? ⟨gb6, 0, none⟩ = some (.slice A5_0 r2_1.length c5_0) := (aH BK6.out 0).trans rfl; have hygb6_0_14 := aG BK6.out 0; have hzgb6_1_14 : w14.cell? ⟨gb6, 1, none⟩ = some (.slice A5_1 r2_2.length c5_1) := (aH BK6.out 1).trans rfl; have hygb6_1_14 := aG BK6.out 1) | ((with_reducible refine aZ (f := 25) rfl ?_); refine goesL_ (some 45) rfl rfl Try.func25 (by kernel_rfl) rfl #[.slice A8_0 r4_0.length c8_0, .int .i64 1] rfl (by (try simp only [List.map_toArray, List.map_cons, List.map_nil]); first | done | rfl | (simp only [List.length_drop, List.length_take]; rfl)) ?_; (with_reducible refine (laws_markKeyS.calls k8 (In lo8 hi8) (.slice A8_0 r4_0.length c8_0) r4_0 1 r8_1 r8_2 w _ ?s1 ?s2 Q8.out).mono ?_); (case s1 => exact HB.out); (case s2 => exact Kd.R_lower HS8_0.out (by have o_ := HORD.out; omega)); rintro e_ w15 ⟨rfl, ho0, hbn_, hkp⟩; refine ⟨_, rfl, ?_⟩; have hkq : Kept w14 w15 (In lo8 hi8) := Kept.mono hkp (fun k_ h_ => by first | exact h_ | (have o_ := HORD.out; (try unfold In at *); omega)); obtain ⟨hi15, e2_⟩ : ∃ n_, n_ = w15.heap.size := ⟨_, rfl⟩; have ol_ : hi11 ≤ hi15 := (by rw [e2_]; exact Nat.le_trans HT.out hkq.1); obtain ⟨he0_, hc0_, hf0_⟩ := Mem.back_R (h2 := hi15) (lo := lo8) ho0 (by have o_ := HORD.out; have t_ := HT.out; omega) e2_; have n0_ := aA.mk (Kd.F_kept HF4_0.out hkq (fun k_ h1_ h2_ => by have o_ := HORD.out; unfold In at h1_ h2_; omega)); have n1_ := aA.mk (Kd.R_kept HS4_0.out hkq (fun k_ h1_ h2_ => by have o_ := HORD.out; unfold In at h1_ h2_; omega)); have n2_ := aA.mk (blk_kept BK1.out hkq (fun h2_ => by have o_ := HORD.out; unfold In at h2_; omega)); have n3_ := aA.mk (blk_kept BK6.out hkq (fun h2_ => by have o_ := HORD.out; unfold In at h2_; omega)); have n4_ := aA.mk (hbn_); have n5_ := aA.mk (And.intro HORD.out ol_); have n6_ := aA.mk (Nat.le_of_eq e2_); have n7_ := aA.mk (he0_); have n8_ := aA.mk (hf0_); have n9_ := aA.mk (hc0_); (try clear HF4_0); (try clear HS4_0); (try clear BK1); (try clear BK6); (try clear HB); (try clear HORD); (try clear HT); (try clear HL15_0); (try clear HF15_0); (try clear HC15_0); have HF4_0 := n0_; have HS4_0 := n1_; have BK1 := n2_; have BK6 := n3_; have HB := n4_; have HORD := n5_; have HT := n6_; have HL15_0 := n7_; have HF15_0 := n8_; have HC15_0 := n9_; clear n0_ n1_ n2_ n3_ n4_ n5_ n6_ n7_ n8_ n9_; clear ol_ e2_ hbn_ hkp hkq ho0 he0_ hc0_ hf0_; have hzgb1_0_15 : w15.cell? ⟨gb1, 0, none⟩ = some (.slice A0_0 l0_0.length c0_0) := (aH BK1.out 0).trans rfl; have hygb1_0_15 := aG BK1.out 0; have hzgb1_1_15 : w15.cell? ⟨gb1, 1, none⟩ = some (.slice A0_1 l0_1.length c0_1) := (aH BK1.out 1).trans rfl; have hygb1_1_15 := aG BK1.out 1; have hzgb6_0_15 : w15.cell? ⟨gb6, 0, none⟩ = some (.slice A5_0 r2_1.length c5_0) := (aH BK6.out 0).trans rfl; have hygb6_0_15 := aG BK6.out 0; have hzgb6_1_15 : w15.cell? ⟨gb6, 1, none⟩ = some (.slice A5_1 r2_2.length c5_1) := (aH BK6.out 1).trans rfl; have hygb6_1_15 := aG BK6.out 1) | ((with_reducible refine aZ (f := 32) rfl ?_); refine goesL_ (some 48) rfl rfl Try.func32 (by kernel_rfl) rfl #[.slice A8_0 r4_0.length c8_0, .int .i64 1] rfl (by (try simp only [List.map_toArray, List.map_cons, List.map_nil]); first | done | rfl | (simp only [List.length_drop, List.length_take]; rfl)) ?_; refine calls_of_args (args' := #[.slice A8_0 r8_2.length c8_0, .int .i64 1]) (by simp only [HL15_0.out]) ?_; (with_reducible refine (laws_heldKeyS.calls k9 _ _ r8_2 1 r8_1 _ ?s1 ?s2 Q9.out).mono ?_); (case s1 => exact (Kd.F_now HF15_0.out)); (case s2 => exact HC15_0.out); rintro e_ w16 ⟨rfl, hd⟩; refine ⟨_, rfl, ?_⟩; have hb := hd.below; clear hd; have n0_ := aA.mk (Kd.F_below HF4_0.out hb); have n1_ := aA.mk (Kd.R_below HS4_0.out hb); have n2_ := aA.mk (Kd.F_below HF15_0.out hb); have n3_ := aA.mk (aU BK1.out hb); have n4_ := aA.mk (aU BK6.out hb); have n5_ := aA.mk (aT HB.out hb); have n6_ := aA.mk (Nat.le_trans HT.out hb.size); (try clear HF4_0); (try clear HS4_0); (try clear HF15_0); (try clear BK1); (try clear BK6); (try clear HB); (try clear HT); have HF4_0 := n0_; have HS4_0 := n1_; have HF15_0 := n2_; have BK1 := n3_; have BK6 := n4_; have HB := n5_; have HT := n6_; clear n0_ n1_ n2_ n3_ n4_ n5_ n6_; (try clear hb); have hzgb1_0_16 : w16.cell? ⟨gb1, 0, none⟩ = some (.slice A0_0 l0_0.length c0_0) := (aH BK1.out 0).trans rfl; have hygb1_0_16 := aG BK1.out 0; have hzgb1_1_16 : w16.cell? ⟨gb1, 1, none⟩ = some (.slice A0_1 l0_1.length c0_1) := (aH BK1.out 1).trans rfl; have hygb1_1_16 := aG BK1.out 1; have hzgb6_0_16 : w16.cell? ⟨gb6, 0, none⟩ = some (.slice A5_0 r2_1.length c5_0) := (aH BK6.out 0).trans rfl; have hygb6_0_16 := aG BK6.out 0; have hzgb6_1_16 : w16.cell? ⟨gb6, 1, none⟩ = some (.slice A5_1 r2_2.length c5_1) := (aH BK6.out 1).trans rfl; have hygb6_1_16 := aG BK6.out 1) | ((with_reducible refine aZ (f := 45) rfl ?_); refine goesL_ (some 55) rfl rfl Try.func45 (by kernel_rfl) rfl #[.agg #[.slice A0_0 l0_0.length c0_0, .slice A0_1 l0_1.length c0_1]] rfl (by (try simp only [List.map_toArray, List.map_cons, List.map_nil]); first | done | rfl | (simp only [List.length_drop, List.length_take]; rfl)) ?_; (with_reducible refine (laws_toTree.calls k2 _ _ l0_0 _ _ l0_1 r2_1 r2_2 _ ?s1 ?s2 ?s3 ?s4 Q2.out).mono ?_); (case s1 => exact (Kd.bE HR0_0.out HB.out)); (case s2 => exact HC0_0.out); (case s3 => exact (Kd.bE HR0_1.out HB.out)); (case s4 => exact HC0_1.out); rintro e_ w17 ⟨v0_, v1_, rfl, ho0, ho1, hb⟩; refine ⟨_, rfl, ?_⟩; obtain ⟨lo17, hi17, el_, eh_, ol_, oh_⟩ := Mem.times HT.out hb; (try rw [← el_] at ho0); obtain ⟨A17_0, c17_0, ev_, hc0_, hf0_, hs0_⟩ := Mem.new_R ho0 eh_; subst ev_; (try rw [← el_] at ho1); obtain ⟨A17_1, c17_1, ev_, hc1_, hf1_, hs1_⟩ := Mem.new_S ho1 eh_; subst ev_; have n0_ := aA.mk (Kd.F_below HF4_0.out hb); have n1_ := aA.mk (Kd.R_below HS4_0.out hb); have n2_ := aA.mk (Kd.F_below HF15_0.out hb); have n3_ := aA.mk (aU BK1.out hb); have n4_ := aA.mk (aU BK6.out hb); have n5_ := aA.mk (aT HB.out hb); have n6_ := aA.mk (hf0_); have n7_ := aA.mk (hc0_); have n8_ := aA.mk (hs0_); have n9_ := aA.mk (hf1_); have n10_ := aA.mk (hc1_); have n11_ := aA.mk (hs1_); have n12_ := aA.mk (And.intro HORD.out (And.intro ol_ oh_)); have n13_ := aA.mk (Nat.le_of_eq eh_); (try clear HF4_0); (try clear HS4_0); (try clear HF15_0); (try clear BK1); (try clear BK6); (try clear HB); (try clear HF17_0); (try clear HC17_0); (try clear HS17_0); (try clear HF17_1); (try clear HC17_1); (try clear HS17_1); (try clear HORD); (try clear HT); have HF4_0 := n0_; have HS4_0 := n1_; have HF15_0 := n2_; have BK1 := n3_; have BK6 := n4_; have HB := n5_; have HF17_0 := n6_; have HC17_0 := n7_; have HS17_0 := n8_; have HF17_1 := n9_; have HC17_1 := n10_; have HS17_1 := n11_; have HORD := n12_; have HT := n13_; clear n0_ n1_ n2_ n3_ n4_ n5_ n6_ n7_ n8_ n9_ n10_ n11_ n12_ n13_; clear ol_ oh_ el_ eh_ ho0 hf0_ hc0_ hs0_ ho1 hf1_ hc1_ hs1_; (try clear hb); have hzgb1_0_17 : w17.cell? ⟨gb1, 0, none⟩ = some (.slice A0_0 l0_0.length c0_0) := (aH BK1.out 0).trans rfl; have hygb1_0_17 := aG BK1.out 0; have hzgb1_1_17 : w17.cell? ⟨gb1, 1, none⟩ = some (.slice A0_1 l0_1.length c0_1) := (aH BK1.out 1).trans rfl; have hygb1_1_17 := aG BK1.out 1; have hzgb6_0_17 : w17.cell? ⟨gb6, 0, none⟩ = some (.slice A5_0 r2_1.length c5_0) := (aH BK6.out 0).trans rfl; have hygb6_0_17 := aG BK6.out 0; have hzgb6_1_17 : w17.cell? ⟨gb6, 1, none⟩ = some (.slice A5_1 r2_2.length c5_1) := (aH BK6.out 1).trans rfl; have hygb6_1_17 := aG BK6.out 1) | ((with_reducible refine aZ (f := 50) rfl ?_); refine goesL_ (some 56) rfl rfl Try.func50 (by kernel_rfl) rfl #[.agg #[.slice A17_0 r2_1.length c17_0, .slice A17_1 r2_2.length c17_1]] rfl (by (try simp only [List.map_toArray, List.map_cons, List.map_nil]); first | done | rfl | (simp only [List.length_drop, List.length_take]; rfl)) ?_; (with_reducible refine (impl_TreeKeys.calls k4 _ _ r2_1 _ _ r2_2 r4_0 _ ?s1 ?s2 ?s3 ?s4 Q4.out).mono ?_); (case s1 => exact (Kd.F_now HF17_0.out)); (case s2 => exact HC17_0.out); (case s3 => exact (Kd.F_now HF17_1.out)); (case s4 => exact HC17_1.out); rintro e_ w18 ⟨v0_, rfl, ho0, hb⟩; refine ⟨_, rfl, ?_⟩; obtain ⟨lo18, hi18, el_, eh_, ol_, oh_⟩ := Mem.times HT.out hb; (try rw [← el_] at ho0); obtain ⟨A18_0, c18_0, ev_, hc0_, hf0_, hs0_⟩ := Mem.new_R ho0 eh_; subst ev_; have n0_ := aA.mk (Kd.F_below HF4_0.out hb); have n1_ := aA.mk (Kd.R_below HS4_0.out hb); have n2_ := aA.mk (Kd.F_below HF15_0.out hb); have n3_ := aA.mk (aU BK1.out hb); have n4_ := aA.mk (aU BK6.out hb); have n5_ := aA.mk (aT HB.out hb); have n6_ := aA.mk (hf0_); have n7_ := aA.mk (hc0_); have n8_ := aA.mk (hs0_); have n9_ := aA.mk (And.intro HORD.out (And.intro ol_ oh_)); have n10_ := aA.mk (Nat.le_of_eq eh_); (try clear HF17_0); (try clear HS17_0); (try clear HC17_0); (try clear HF17_1); (try clear HS17_1); (try clear HC17_1); (try clear HF4_0); (try clear HS4_0); (try clear HF15_0); (try clear BK1); (try clear BK6); (try clear HB); (try clear HF18_0); (try clear HC18_0); (try clear HS18_0); (try clear HORD); (try clear HT); have HF4_0 := n0_; have HS4_0 := n1_; have HF15_0 := n2_; have BK1 := n3_; have BK6 := n4_; have HB := n5_; have HF18_0 := n6_; have HC18_0 := n7_; have HS18_0 := n8_; have HORD := n9_; have HT := n10_; clear n0_ n1_ n2_ n3_ n4_ n5_ n6_ n7_ n8_ n9_ n10_; clear ol_ oh_ el_ eh_ ho0 hf0_ hc0_ hs0_; (try clear hb); have hzgb1_0_18 : w18.cell? ⟨gb1, 0, none⟩ = some (.slice A0_0 l0_0.length c0_0) := (aH BK1.out 0).trans rfl; have hygb1_0_18 := aG BK1.out 0; have hzgb1_1_18 : w18.cell? ⟨gb1, 1, none⟩ = some (.slice A0_1 l0_1.length c0_1) := (aH BK1.out 1).trans rfl; have hygb1_1_18 := aG BK1.out 1; have hzgb6_0_18 : w18.cell? ⟨gb6, 0, none⟩ = some (.slice A5_0 r2_1.length c5_0) := (aH BK6.out 0).trans rfl; have hygb6_0_18 := aG BK6.out 0; have hzgb6_1_18 : w18.cell? ⟨gb6, 1, none⟩ = some (.slice A5_1 r2_2.length c5_1) := (aH BK6.out 1).trans rfl; have hygb6_1_18 := aG BK6.out 1) | ((with_reducible refine aZ (f := 24) rfl ?_); refine goesL_ (some 59) rfl rfl Try.func24 (by kernel_rfl) rfl #[.slice A18_0 r4_0.length c18_0, .slice A4_0 r3_0.length c4_0] rfl (by (try simp only [List.map_toArray, List.map_cons, List.map_nil]); first | done | rfl | (simp only [List.length_drop, List.length_take]; rfl)) ?_; (with_reducible refine (laws_eqKeyS.calls k5 _ _ r4_0 _ _ r3_0 true _ ?s1 ?s2 ?s3 ?s4 Q5.out).mono ?_); (case s1 => exact (Kd.F_now HF18_0.out)); (case s2 => exact HC18_0.out); (case s3 => exact (Kd.F_now HF4_0.out)); (case s4 => exact HC4_0.out); rintro e_ w19 ⟨rfl, hb⟩; refine ⟨_, rfl, ?_⟩; have n0_ := aA.mk (Kd.F_below HF15_0.out hb); have n1_ := aA.mk (aU BK1.out hb); have n2_ := aA.mk (aU BK6.out hb); have n3_ := aA.mk (aT HB.out hb); have n4_ := aA.mk (Nat.le_trans HT.out hb.size); (try clear HF4_0); (try clear HS4_0); (try clear HC4_0); (try clear HF18_0); (try clear HS18_0); (try clear HC18_0); (try clear HF15_0); (try clear BK1); (try clear BK6); (try clear HB); (try clear HT); have HF15_0 := n0_; have BK1 := n1_; have BK6 := n2_; have HB := n3_; have HT := n4_; clear n0_ n1_ n2_ n3_ n4_; (try clear hb); have hzgb1_0_19 : w19.cell? ⟨gb1, 0, none⟩ = some (.slice A0_0 l0_0.length c0_0) := (aH BK1.out 0).trans rfl; have hygb1_0_19 := aG BK1.out 0; have hzgb1_1_19 : w19.cell? ⟨gb1, 1, none⟩ = some (.slice A0_1 l0_1.length c0_1) := (aH BK1.out 1).trans rfl; have hygb1_1_19 := aG BK1.out 1; have hzgb6_0_19 : w19.cell? ⟨gb6, 0, none⟩ = some (.slice A5_0 r2_1.length c5_0) := (aH BK6.out 0).trans rfl; have hygb6_0_19 := aG BK6.out 0; have hzgb6_1_19 : w19.cell? ⟨gb6, 1, none⟩ = some (.slice A5_1 r2_2.length c5_1) := (aH BK6.out 1).trans rfl; have hygb6_1_19 := aG BK6.out 1) | ((with_reducible refine aZ (f := 32) rfl ?_); refine goesL_ (some 63) rfl rfl Try.func32 (by kernel_rfl) rfl #[.slice A8_0 r4_0.length c8_0, .int .i64 1] rfl (by (try simp only [List.map_toArray, List.map_cons, List.map_nil]); first | done | rfl | (simp only [List.length_drop, List.length_take]; rfl)) ?_; refine calls_of_args (args' := #[.slice A8_0 r8_2.length c8_0, .int .i64 1]) (by simp only [HL15_0.out]) ?_; (with_reducible refine (laws_heldKeyS.calls k9 _ _ r8_2 1 r8_1 _ ?s1 ?s2 Q9.out).mono ?_); (case s1 => exact (Kd.F_now HF15_0.out)); (case s2 => exact HC15_0.out); rintro e_ w20 ⟨rfl, hd⟩; refine ⟨_, rfl, ?_⟩; have hb := hd.below; clear hd; have n0_ := aA.mk (aU BK1.out hb); have n1_ := aA.mk (aU BK6.out hb); have n2_ := aA.mk (aT HB.out hb); have n3_ := aA.mk (Nat.le_trans HT.out hb.size); (try clear HF15_0); (try clear HC15_0); (try clear HL15_0); (try clear BK1); (try clear BK6); (try clear HB); (try clear HT); have BK1 := n0_; have BK6 := n1_; have HB := n2_; have HT := n3_; clear n0_ n1_ n2_ n3_; (try clear hb); have hzgb1_0_20 : w20.cell? ⟨gb1, 0, none⟩ = some (.slice A0_0 l0_0.length c0_0) := (aH BK1.out 0).trans rfl; have hygb1_0_20 := aG BK1.out 0; have hzgb1_1_20 : w20.cell? ⟨gb1, 1, none⟩ = some (.slice A0_1 l0_1.length c0_1) := (aH BK1.out 1).trans rfl; have hygb1_1_20 := aG BK1.out 1; have hzgb6_0_20 : w20.cell? ⟨gb6, 0, none⟩ = some (.slice A5_0 r2_1.length c5_0) := (aH BK6.out 0).trans rfl; have hygb6_0_20 := aG BK6.out 0; have hzgb6_1_20 : w20.cell? ⟨gb6, 1, none⟩ = some (.slice A5_1 r2_2.length c5_1) := (aH BK6.out 1).trans rfl; have hygb6_1_20 := aG BK6.out 1))
 have hres_ := @results_tmp Try.f12 2 (by kernel_rfl)
 refine bodyPost_ret (fn := Try.f12) (P := Try.prog) (hres_ _ _ _) rfl ?_
 exact ⟨rfl, HB.out⟩
set_option maxHeartbeats 2000000 in
theorem laws_FnExactTreeKeys.calls (A0_0 : Option Addr) (c0_0 : Nat) (l0_0 : List (Int)) (A0_1 : Option Addr) (c0_1 : Nat) (l0_1 : List (S24)) (w : World) (hr0_0 : Kd.C (Kd.int .i64) w A0_0 l0_0.length l0_0) (hc0_0 : l0_0.length ≤ c0_0) (hr0_1 : Kd.C k24 w A0_1 l0_1.length l0_1) (hc0_1 : l0_1.length ≤ c0_1) (h0 : (l0_0.length ≤ 9223372036854775807 ∧ ∀ y0 ∈ l0_0, (Lit.int .i64 y0).wf = true) ∧ (l0_1.length ≤ 9223372036854775807 ∧ ∀ y0 ∈ l0_1, ((y0.f0.length ≤ 9223372036854775807 ∧ ∀ y1 ∈ y0.f0, (y1.length ≤ 9223372036854775807 ∧ ∀ y2 ∈ y1, ((Lit.int .i64 y2.f0).wf = true ∧ (Lit.int .i64 y2.f1).wf = true ∧ (Lit.int .i64 y2.f2).wf = true ∧ (Lit.int .i64 y2.f3).wf = true ∧ (Lit.int .i64 y2.f4).wf = true)))))) :
  Calls Try.prog 12 #[.agg #[.slice A0_0 l0_0.length c0_0, .slice A0_1 l0_1.length c0_1]] w fun e w' => e = .returned (.bool true) ∧ Below w.heap.size w w' := by
 have u0_0 := sumIntS_nn l0_0
 have u0_1 := sumNodeS_pos l0_1
 have u0_2 : sumTree l0_0 l0_1 = sumIntS l0_0 + sumNodeS l0_1 := rfl
 by_cases c0 : 1048576 < sumTree l0_0 l0_1
 ·obtain ⟨_, A1⟩ : ∃ k : Nat, laws_szTree.f k l0_0 l0_1 1048576 = some (-1) := evGet (szTree_big l0_0 l0_1 _ h0.1.1 ⟨h0.2.1, fun x hx => ⟨(h0.2.2 x hx).1, fun y hy => ((h0.2.2 x hx).2 y hy).1⟩⟩ (by omega) (by omega) c0)
  exact walkFnExactTreeKeysbig _ _ _ _ _ _ _ _ w hr0_0 hc0_0 hr0_1 hc0_1 A1 (by decide)
 obtain ⟨_, A1⟩ : ∃ k : Nat, laws_szTree.f k l0_0 l0_1 1048576 = some (1048576 - sumTree l0_0 l0_1) := evGet (szTree_fit l0_0 l0_1 _ h0.1.1 ⟨h0.2.1, fun x hx => ⟨(h0.2.2 x hx).1, fun y hy => ((h0.2.2 x hx).2 y hy).1⟩⟩ (by omega) (by omega) c0)
 have i0_0 : inIntS l0_0 := in_of_sumIntS (by omega)
 have i0_1 : inNodeS l0_1 := in_of_sumNodeS (by omega)
 have o0_0 : okIntS l0_0 := ok_of_inIntS i0_0
 have q0_0 := cntIntS_nn o0_0
 have o0_1 : okNodeS (convNodeS l0_1) := ok_of_inNodeS i0_1
 have q0_1 := cntNodeS_nn o0_1
 have oR0 : okKeyS (treeKeys (convNodeS l0_1)) := (by have h1 := treeKeys_length (convNodeS l0_1); have h2 := sumKeysN_bulk (convNodeS l0_1); unfold okKeyS; unfold okNodeS at o0_1; omega)
 have qR0 := cntKeyS_nn oR0
 obtain ⟨_, A2⟩ : ∃ k : Nat, laws_toTree.f k l0_0 l0_1 = some (l0_0, ((convNodeS l0_1))) := evGet (toTree_ev _ _ (by assumption) (by assumption))
 obtain ⟨_, A3⟩ : ∃ k : Nat, spec_TreeKeys.f k l0_0 ((convNodeS l0_1)) = some (treeKeys (convNodeS l0_1)) := evGet (spec_TreeKeys_ev _ _ (by assumption))
 obtain ⟨_, A4⟩ : ∃ k : Nat, impl_TreeKeys.f k l0_0 ((convNodeS l0_1)) = some (treeKeys (convNodeS l0_1)) := evGet (impl_TreeKeys_ev _ _ (by assumption))
 obtain ⟨_, A5⟩ : ∃ k : Nat, laws_eqKeyS.f k (treeKeys (convNodeS l0_1)) (treeKeys (convNodeS l0_1)) = some true := evGet (eqKeyS_ev _ (by assumption))
 obtain ⟨_, A6⟩ : ∃ k : Nat, laws_eqTree.f k l0_0 ((convNodeS l0_1)) l0_0 ((convNodeS l0_1)) = some true := evGet (eqTree_ev _ _ (by assumption) (by assumption))
 obtain ⟨_, A7⟩ : ∃ k : Nat, laws_markTree.f l0_0 ((convNodeS l0_1)) 1 = some ((1 + (cntIntS l0_0 + cntNodeS ((convNodeS l0_1)))), (mkIntS l0_0 1), (mkNodeS ((convNodeS l0_1)) (1 + cntIntS l0_0))) := ⟨0, markTree_f (by assumption) (by assumption) (by omega) (by omega)⟩
 obtain ⟨_, A8⟩ : ∃ k : Nat, laws_markKeyS.f k (treeKeys (convNodeS l0_1)) 1 = some ((1 + cntKeyS (treeKeys (convNodeS l0_1))), (mkKeyS (treeKeys (convNodeS l0_1)) 1)) := evGet (markKeyS_ev _ _ (by assumption) (by omega) (by omega))
 obtain ⟨_, A9⟩ : ∃ k : Nat, laws_heldKeyS.f k (mkKeyS (treeKeys (convNodeS l0_1)) 1) 1 = some (1 + cntKeyS (treeKeys (convNodeS l0_1))) := evGet (heldKeyS_ev _ _ (by assumption) (by omega) (by omega))
 exact walkFnExactTreeKeys _ _ _ _ _ _ _ _ _ _ _ _ _ _ _ _ _ _ _ _ _ _ _ _ w hr0_0 hc0_0 hr0_1 hc0_1 A1 A2 A3 A4 A5 A6 A7 A8 A9 (by omega) (by omega) (by omega)
end Go.Proofs.Ythpfihklkcnckaa.Law

namespace Go.Proofs.Ythpfihklkcnckaa.Op
open Go.RowKit Go.ChangeShapes Go.WideShapes Go.Proofs.YthpfihklkcnckaaW.PrintWords
def Opens {α : Type} (P : Program) (t : TypeId) (d : Kd α) (g : α → Prop) : Prop :=
 ∀ {H : Type} {enc : TypeId × Value → H} {w : World} {base : Nat} {spare : Nat → Bool} {held : Bool} {fuel : Nat} {cs : List Value} {x : DataW H × List MemPlace},
  DataW.trod enc P w base spare held fuel t cs = some x → ∃ a, d.K w a cs ∧ g a
theorem opens_int {P : Program} {t : TypeId} {k : IntKind} (ht : P.underlying t = some (.int k)) : Opens P t (Kd.int k) (fun n => (Lit.int k n).wf = true) := by
 intro H enc w base spare held fuel cs x h
 obtain ⟨n, rfl, _, hw⟩ := DataW.trod_int ht h
 exact ⟨n, rfl, hw⟩
theorem opens_slice {α : Type} {P : Program} {t e : TypeId} {d : Kd α} {g : α → Prop} (q : Nat) (ht : P.underlying t = some (.slice e)) (hd : Opens P e d g) (hc : P.cellsOf e = d.sz) :
  Opens P t (Kd.slice q d) (fun xs => xs.length ≤ 9223372036854775807 ∧ ∀ x ∈ xs, g x) := by
 intro H enc w base spare held fuel cs x h
 rcases DataW.trod_slice ht h with ⟨rfl, _⟩ | ⟨a, len, cap, elems, rest, n, _, rfl, _, _, hl, hm, hlen, hel, _, _⟩
 ·exact ⟨[], ⟨none, 0, rfl, Nat.le_refl _, rfl, Nat.zero_le _, fun h => by cases h⟩, by simp, by simp⟩
 ·have each : ∀ i : Fin len, ∃ y : α, g y ∧ ∃ c : List Value, c.length = d.sz ∧ d.K w y c ∧ ∀ j u, c[j]? = some u → w.cell? (a.add (i.val * d.sz + j)) = some u := by
   intro i
   have h1 := hel i.val i.isLt
   rw [List.getElem?_eq_getElem (by omega), Option.bind_eq_some_iff] at h1
   obtain ⟨c, hcs, hy⟩ := h1
   obtain ⟨_, hcl, hcell⟩ := World.cells?_some hcs
   obtain ⟨y, hK, hg⟩ := hd hy
   refine ⟨y, hg, c, by rw [hcl, hc], hK, fun j u hu => ?_⟩
   have hj : j < c.length := (List.getElem?_eq_some_iff.1 hu).1
   have h2 := hcell j (by omega)
   rw [hu] at h2
   rw [← h2, hc]
   congr 1
   exact (Addr.add_add a _ _).symm
  obtain ⟨f, hf⟩ := Classical.axiomOfChoice each
  refine ⟨List.ofFn f, ⟨some a, cap, by rw [List.length_ofFn], by rw [List.length_ofFn]; exact hl, by rw [List.length_ofFn], by rw [List.length_ofFn]; unfold maxLen at hm; omega, fun _ => ⟨a, rfl, fun j p hp => ?_⟩⟩, by rw [List.length_ofFn]; unfold maxLen at hm; omega, fun x hx => ?_⟩
  ·rw [List.getElem?_ofFn] at hp
   split at hp
   ·rename_i hj
    obtain rfl := Option.some.inj hp
    obtain ⟨_, c, h1, h2, h3⟩ := hf ⟨j, hj⟩
    exact ⟨c, h1, h2, h3⟩
   ·cases hp
  ·obtain ⟨i, rfl⟩ := List.mem_ofFn.1 hx
   exact (hf i).1
/-- The fields from one offset on. -/
def OpensL {α : Type} (P : Program) (fs : List Field) (off : Nat) (d : Kd α) (g : α → Prop) : Prop :=
 ∀ {H : Type} {enc : TypeId × Value → H} {w : World} {base : Nat} {spare : Nat → Bool} {held : Bool} {fuel : Nat} {cs : List Value},
  (∀ f ∈ fs, ∃ x, DataW.trod enc P w base spare held fuel f.type ((cs.drop f.offset).take (P.cellsOf f.type)) = some x) → ∃ a, d.K w a ((cs.drop off).take d.sz) ∧ g a
theorem opensL_one {α : Type} {P : Program} {f : Field} {d : Kd α} {g : α → Prop} {off : Nat} (ho : f.offset = off) (hd : Opens P f.type d g) (hc : P.cellsOf f.type = d.sz) : OpensL P [f] off d g := by
 intro H enc w base spare held fuel cs h
 obtain ⟨x, hx⟩ := h f (by simp)
 rw [hc, ho] at hx
 exact hd hx
theorem opensL_cons {α β : Type} {P : Program} {f : Field} {fs : List Field} {d : Kd α} {g : α → Prop} {d' : Kd β} {g' : β → Prop} {off : Nat} (ho : f.offset = off) (hd : Opens P f.type d g) (hc : P.cellsOf f.type = d.sz)
  (hr : OpensL P fs (off + d.sz) d' g') : OpensL P (f :: fs) off (Kd.pair d d') (fun x => g x.1 ∧ g' x.2) := by
 intro H enc w base spare held fuel cs h
 obtain ⟨a, ha, hg⟩ := opensL_one ho hd hc (fun f' hf' => h f' (by simp at hf'; simp [hf']))
 obtain ⟨b, hb, hg'⟩ := hr (fun f' hf' => h f' (List.mem_cons_of_mem _ hf'))
 refine ⟨(a, b), ⟨(cs.drop off).take d.sz, (cs.drop (off + d.sz)).take d'.sz, ?_, ha, hb⟩, hg, hg'⟩
 show (cs.drop off).take (d.sz + d'.sz) = _
 rw [List.take_add, List.drop_drop]
theorem opens_struct {α : Type} {P : Program} {t : TypeId} {fs : Array Field} {d : Kd α} {g : α → Prop} (ht : P.underlying t = some (.struct fs)) (hc : P.cellsOf t = d.sz) (hL : OpensL P fs.toList 0 d g) : Opens P t d g := by
 intro H enc w base spare held fuel cs x h
 obtain ⟨xs, n, _, _, hl, hxl, hf⟩ := DataW.trod_struct ht h
 have := hL (enc := enc) (w := w) (base := base) (spare := spare) (held := held) (fuel := n) (cs := cs) (fun f hmem => by
  obtain ⟨i, hi⟩ := List.getElem?_of_mem hmem
  have hi' : fs[i]? = some f := by simpa using hi
  have hlt : i < fs.size := (Array.getElem?_eq_some_iff.1 hi').1
  exact ⟨xs[i]'(by omega), by rw [hf i f hi', List.getElem?_eq_getElem]⟩)
 rw [List.drop_zero, ← hc, ← hl, List.take_length] at this
 exact this
theorem opens_iso {α β : Type} {P : Program} {t : TypeId} {d : Kd α} {g : α → Prop} (f : β → α) (e : α → β) (he : ∀ a, f (e a) = a) (h : Opens P t d g) : Opens P t (Kd.iso d f) (fun b => g (f b)) := by
 intro H enc w base spare held fuel cs x hx
 obtain ⟨a, ha, hg⟩ := h hx
 exact ⟨e a, by show d.K w (f (e a)) cs; rw [he]; exact ha, by show g (f (e a)); rw [he]; exact hg⟩
theorem opens_mono {α : Type} {P : Program} {t : TypeId} {d : Kd α} {g g' : α → Prop} (h : Opens P t d g) (hg : ∀ a, g a → g' a) : Opens P t d g' := by
 intro H enc w base spare held fuel cs x hx
 obtain ⟨a, ha, hga⟩ := h hx
 exact ⟨a, ha, hg a hga⟩
end Go.Proofs.Ythpfihklkcnckaa.Op

namespace Go.Proofs.Ythpfihklkcnckaa.rowFnExactTreeKeys
open Go.ChangeShapes Go.WideShapes Go.ChangeAt Go.RowKit
open Go.ChangeMaps (open_string shut_string)
open Go.Proofs.YthpfihklkcnckaaW.PrintWords Go.Proofs.Ythpfihklkcnckaa.Op Go.Proofs.Ythpfihklkcnckaa.PFnExactTreeKeys Go.Proofs.Ythpfihklkcnckaa.Law
set_option linter.unusedVariables false
set_option linter.unusedSimpArgs false
theorem own : ownKnob Try.prog.godebug = none := by kernel_rfl
theorem laidOut : laidOutB Try.prog = true := by kernel_rfl
theorem opensElKey : Opens Try.prog 50 k50 (fun x => ((Lit.int .i64 x.f0).wf = true ∧ (Lit.int .i64 x.f1).wf = true ∧ (Lit.int .i64 x.f2).wf = true ∧ (Lit.int .i64 x.f3).wf = true ∧ (Lit.int .i64 x.f4).wf = true)) := opens_mono (opens_iso (fun x : S50 => (x.f0, x.f1, x.f2, x.f3, x.f4)) (fun y => ⟨y.1, y.2.1, y.2.2.1, y.2.2.2.1, y.2.2.2.2⟩) (fun _ => rfl) (opens_struct Try.underlying50 (by kernel_rfl) (opensL_cons rfl (opens_int Try.underlying3) (by kernel_rfl) (opensL_cons rfl (opens_int Try.underlying3) (by kernel_rfl) (opensL_cons rfl (opens_int Try.underlying3) (by kernel_rfl) (opensL_cons rfl (opens_int Try.underlying3) (by kernel_rfl) (opensL_one rfl (opens_int Try.underlying3) (by kernel_rfl)))))))) (fun _ h => h)
theorem opensElNode : Opens Try.prog 24 k24 (fun x => ((x.f0.length ≤ 9223372036854775807 ∧ ∀ y0 ∈ x.f0, (y0.length ≤ 9223372036854775807 ∧ ∀ y1 ∈ y0, ((Lit.int .i64 y1.f0).wf = true ∧ (Lit.int .i64 y1.f1).wf = true ∧ (Lit.int .i64 y1.f2).wf = true ∧ (Lit.int .i64 y1.f3).wf = true ∧ (Lit.int .i64 y1.f4).wf = true))))) := opens_mono (opens_iso (fun x : S24 => x.f0) (fun y => ⟨y⟩) (fun _ => rfl) (opens_struct Try.underlying24 (by kernel_rfl) (opensL_one rfl ((opens_slice 37 Try.underlying22 ((opens_slice 50 Try.underlying37 (opensElKey) (by kernel_rfl))) (by kernel_rfl))) (by kernel_rfl)))) (fun _ h => h)
theorem opensTree : Opens Try.prog 65 (Kd.pair (Kd.slice 3 (Kd.int .i64)) (Kd.slice 24 (k24))) (fun x => (x.1.length ≤ 9223372036854775807 ∧ ∀ y0 ∈ x.1, (Lit.int .i64 y0).wf = true) ∧ (x.2.length ≤ 9223372036854775807 ∧ ∀ y0 ∈ x.2, ((y0.f0.length ≤ 9223372036854775807 ∧ ∀ y1 ∈ y0.f0, (y1.length ≤ 9223372036854775807 ∧ ∀ y2 ∈ y1, ((Lit.int .i64 y2.f0).wf = true ∧ (Lit.int .i64 y2.f1).wf = true ∧ (Lit.int .i64 y2.f2).wf = true ∧ (Lit.int .i64 y2.f3).wf = true ∧ (Lit.int .i64 y2.f4).wf = true)))))) := opens_struct Try.underlying65 (by kernel_rfl) (opensL_cons rfl ((opens_slice 3 Try.underlying55 (opens_int Try.underlying3) (by kernel_rfl))) (by kernel_rfl) (opensL_one rfl ((opens_slice 24 Try.underlying63 (opensElNode) (by kernel_rfl))) (by kernel_rfl)))
set_option maxRecDepth 100000 in
theorem lifted (os : Os) (started : os.Started) (H : Type) (enc : TypeId × Value → H) :
  ReturnsInHanded {} Try.checked os 12 .any (Rows.fnExactTreeKeysSpec.pre6 enc Try.prog Try.f12 Rows.fnExactTreeKeysRow.domain false) (Rows.fnExactTreeKeysSpec.post enc Try.prog Try.f12 false true false false) := by
 refine returnsInHanded_of_change_sized (C := Try.checked) own started (by kernel_rfl) Try.func12
  (ChangeSpec.witness6 (enc := enc) (C := Try.checked) false ⟨#[], #[.agg #[.slice none 0 0, .slice none 0 0]], []⟩ 8 (by kernel_rfl) (by kernel_rfl) (by kernel_rfl) (by kernel_rfl)) ?_
 intro W base args ds gs before hval0 hW hcnd hsz0 _
 have hval : ∀ (j : Nat) t v, Try.f12.params[j]? = some t → args[j]? = some v → Value.okWide Try.prog W .any base t v := hval0
 have hW' := hW
 obtain ⟨p, q, hA0, hV, rfl, hfz, hnd⟩ := hW
 have hA : DataW.TrodAll enc Try.prog W 0 (fun _ => true) true Try.f12.params.toList args.toList ds p := hA0
 rw [Try.params12] at hA hval
 obtain ⟨v0, vs0, d0, ds0, p0, q0, hargs, rfl, rfl, h0, r0⟩ := trodAll_cons hA
 obtain ⟨rfl, rfl, rfl⟩ := trodAll_nil r0
 obtain rfl : args = #[v0] := by cases args; simp_all
 obtain ⟨rfl, rfl⟩ := trodVars_none hV
 have k0 := h0
 have lt0 : ∀ x ∈ p0, x.block < W.heap.size := by obtain ⟨m, hm⟩ := k0; exact DataW.trod_lt m _ _ _ hm
 obtain ⟨fuel0, hf0⟩ := h0
 obtain ⟨cs0, rfl, _⟩ := okWide_struct Try.underlying65 (hval 0 65 v0 rfl rfl)
 obtain ⟨x0, hK0, g0⟩ := opensTree hf0
 obtain ⟨l0_0, l0_1⟩ := x0
 obtain ⟨_, _, e0, ⟨A0_0, c0_0, rfl, hc0_0, hC0_0⟩, ⟨A0_1, c0_1, rfl, hc0_1, hC0_1⟩⟩ := hK0
 obtain rfl : cs0 = #[.slice A0_0 l0_0.length c0_0, .slice A0_1 l0_1.length c0_1] := by apply Array.toList_inj.1; exact e0
 clear hA0 hval0 hsz0
 refine (laws_FnExactTreeKeys.calls _ _ _ _ _ _ W hC0_0 hc0_0 hC0_1 hc0_1 g0).mono fun e W' ⟨he, bel0⟩ => ?_
 have bel : Below W.heap.size W W' := by first | exact bel0 | exact bel0.below
 subst he
 exact ⟨_, rfl, _, _, _, [], _, [], hW', trodAll_mk1 (shut_bool Try.underlying4 _), (trodAll_cons_mk (Below.trod laidOut (by kernel_rfl) (lE (by kernel_rfl)) k0 bel lt0) trodAll_mk0), rfl, bel.frame _, fun h => by cases h⟩
theorem over : Rows.fnExactTreeKeysRow.holds Try.pinned (OpenSpec.ofChange Rows.fnExactTreeKeysSpec) :=
 OpenClaim.holds_of_wide 12 Try.f12 rfl rfl rfl rfl rfl rfl rfl ⟨rfl, rfl, rfl, rfl, rfl⟩ rfl rfl rfl rfl rfl (by kernel_rfl) Try.func12 (by kernel_rfl)
  (lE (by kernel_rfl)) (by unfold Func.isWrapper; first | (rw [if_pos (by decide +kernel)]; kernel_rfl) | (rw [if_neg (by decide +kernel)]; exact ⟨rfl, rfl⟩))
  (fun os started H enc _ => lifted os started H enc)
theorem proved : Rows.FnExactTreeKeysSaid := over
#print axioms proved
end Go.Proofs.Ythpfihklkcnckaa.rowFnExactTreeKeys
namespace Go.Proofs.Ythpfihklkcnckaa
theorem fnExactTreeKeys_holds : Rows.FnExactTreeKeysSaid := rowFnExactTreeKeys.proved
end Go.Proofs.Ythpfihklkcnckaa
