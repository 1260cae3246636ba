/- What the functions that the law reaches answer, as plain functions of numbers and lists; each says its conditions itself. -/
import Derived.Test.YthpfihklkcnckaaMFnExactTreeNewx0
import Derived.Test.YthpfihklkcnckaaMFnExactTreeNewx1
import Derived.Test.YthpfihklkcnckaaMFnExactTreeNewx2
import Derived.Test.YthpfihklkcnckaaMFnExactTreeNewx3
import Derived.Test.YthpfihklkcnckaaMFnExactTreeNewx4
import Derived.Test.YthpfihklkcnckaaCore
import Derived.Test.YthpfihklkcnckaaMarks
namespace Go.Proofs.Ythpfihklkcnckaa.Pure
open Go.RowKit Go.Proofs.Ythpfihklkcnckaa.PFnExactTreeNew Go.Proofs.Ythpfihklkcnckaa.Core Go.Proofs.YthpfihklkcnckaaW.PrintWords Go.Proofs.YthpfihklkcnckaaW.PrintLast Go.Proofs.YthpfihklkcnckaaW.PrintMore
set_option linter.unusedSimpArgs false
set_option linter.unusedVariables false

def okIntS (l : List Int) : Prop := l.length ≤ 4194304
def cntIntS (l : List Int) : Int := l.length
theorem cntIntS_nn {l : List Int} (h : okIntS l) : 0 ≤ cntIntS l ∧ cntIntS l ≤ 1073741824 := by unfold okIntS at h; unfold cntIntS; omega
def inIntS (l : List Int) : Prop := l.length ≤ 1048576
theorem ok_of_inIntS {l : List Int} (h : inIntS l) : okIntS l := by unfold inIntS at h; unfold okIntS; omega
def sumIntS (l : List Int) : Int := l.length
theorem sumIntS_nn (l : List Int) : 0 ≤ sumIntS l := by unfold sumIntS; omega
theorem in_of_sumIntS {l : List Int} (h : sumIntS l ≤ 1048576) : inIntS l := by unfold sumIntS at h; unfold inIntS; omega

theorem eqIntS_ev (l : List Int) (ho : okIntS l) : Ev (fun k => laws_eqIntS.f k l l) true := by
  have h : l.length ≤ 4194304 := ho
  obtain ⟨K, hk⟩ := evRange0 (σ := Unit) l.length (fun k _ i => laws_eqIntS.l0 k l l i) (fun _ _ => True) (fun _ _ => true) () trivial
    (by
      intro i _ hi _
      refine .inl ⟨(), trivial, rfl, 0, 1, fun k _ => ?_⟩
      simp only [laws_eqIntS.l0]
      rw [if_pos (by omega), if_pos (by omega), if_pos (by omega), if_pos trivial, w64s i (by omega)])
    (by
      intro _ _
      refine ⟨0, 1, fun k _ => ?_⟩
      simp only [laws_eqIntS.l0]
      rw [if_neg (by omega)])
  refine ⟨K, fun k hk' => ?_⟩
  simp only [laws_eqIntS.f]
  rw [if_pos trivial]
  exact hk k hk'

def okKeyS (l : List S27) : Prop := l.length ≤ 4194304
def cntKeyS (l : List S27) : Int := 5 * l.length
theorem cntKeyS_nn {l : List S27} (h : okKeyS l) : 0 ≤ cntKeyS l ∧ cntKeyS l ≤ 1073741824 := by unfold okKeyS at h; unfold cntKeyS; omega

theorem eqKey_refl (x : S27) : laws_eqKey.f x.f0 x.f1 x.f2 x.f3 x.f4 x.f0 x.f1 x.f2 x.f3 x.f4 = some true := by simp [laws_eqKey.f]
theorem eqKey_same (a b c d e : Int) : laws_eqKey.f a b c d e a b c d e = some true := by simp [laws_eqKey.f]
theorem eqKeyS_ev (l : List S27) (ho : okKeyS l) : Ev (fun k => laws_eqKeyS.f k l l) true := by
  have h : l.length ≤ 4194304 := ho
  obtain ⟨K, hk⟩ := evRange0 (σ := Unit) l.length (fun k _ i => laws_eqKeyS.l0 k l l i) (fun _ _ => True) (fun _ _ => true) () trivial
    (by
      intro i _ hi _
      refine .inl ⟨(), trivial, rfl, 0, 1, fun k _ => ?_⟩
      simp only [laws_eqKeyS.l0]
      rw [if_pos (by omega), if_pos (by omega), if_pos (by omega), eqKey_refl, w64s i (by omega)]
      rfl)
    (by
      intro _ _
      refine ⟨0, 1, fun k _ => ?_⟩
      simp only [laws_eqKeyS.l0]
      rw [if_neg (by omega)])
  refine ⟨K, fun k hk' => ?_⟩
  simp only [laws_eqKeyS.f]
  rw [if_pos trivial]
  exact hk k hk'

/-- What the impl's side holds, all in all. -/
def bulkKeySS : List (List S27) → Nat
  | [] => 0
  | x :: xs => 1 + x.length + bulkKeySS xs
def okKeySS (l : List (List S27)) : Prop := bulkKeySS l ≤ 4194304
theorem bulkKeySS_len : ∀ l : List (List S27), l.length ≤ bulkKeySS l
  | [] => by simp [bulkKeySS]
  | x :: xs => by have := bulkKeySS_len xs; simp only [bulkKeySS, List.length_cons]; omega
theorem bulkKeySS_at : ∀ (l : List (List S27)) (i : Nat), i < l.length → (l.getD i []).length ≤ bulkKeySS l
  | x :: xs, 0, _ => by simp only [bulkKeySS, List.getD_cons_zero]; omega
  | x :: xs, i + 1, h => by
    have := bulkKeySS_at xs i (by simpa using h)
    simp only [bulkKeySS, List.getD_cons_succ]; omega
theorem okKeySS_at {l : List (List S27)} (h : okKeySS l) (i : Nat) (hi : i < l.length) : okKeyS (l.getD i []) := by
  have h1 := bulkKeySS_at l i hi
  unfold okKeySS at h
  show (l.getD i []).length ≤ 4194304
  omega
theorem okKeySS_len {l : List (List S27)} (h : okKeySS l) : l.length ≤ 4194304 := by have := bulkKeySS_len l; unfold okKeySS at h; omega

theorem eqKeySS_ev (l : List (List S27)) (ho : okKeySS l) : Ev (fun k => laws_eqKeySS.f k l l) true := by
  have h := okKeySS_len ho
  obtain ⟨K, hk⟩ := evRange0 (σ := Unit) l.length (fun k _ i => laws_eqKeySS.l0 k l l i) (fun _ _ => True) (fun _ _ => true) () trivial
    (by
      intro i _ hi _
      have hr : rd_L2 l (i : Int) = l.getD i [] := by simp [rd_L2]
      obtain ⟨K, e⟩ := eqKeyS_ev (l.getD i []) (okKeySS_at ho i hi)
      refine .inl ⟨(), trivial, rfl, K, 1, fun k hk => ?_⟩
      have e1 := e k hk
      simp only at e1
      simp only [laws_eqKeySS.l0, hr, e1, Option.bind_some]
      rw [if_pos (by omega), if_pos (by omega), if_pos (by omega), if_pos trivial, w64s i (by omega)])
    (by
      intro _ _
      refine ⟨0, 1, fun k _ => ?_⟩
      simp only [laws_eqKeySS.l0]
      rw [if_neg (by omega)])
  refine ⟨K, fun k hk' => ?_⟩
  simp only [laws_eqKeySS.f]
  rw [if_pos trivial]
  exact hk k hk'

theorem eqNode_ev (l : List (List S27)) (ho : okKeySS l) : Ev (fun k => laws_eqNode.f k l l) true := by
  obtain ⟨K, e⟩ := eqKeySS_ev l ho
  refine ⟨K, fun k hk => ?_⟩
  have e1 := e k hk
  simp only at e1
  simp only [laws_eqNode.f, e1, Option.bind_some]
  rfl

/-- What the impl's side holds, all in all. -/
def bulkNodeS : List (S32) → Nat
  | [] => 0
  | x :: xs => 1 + bulkKeySS x.f0 + bulkNodeS xs
def okNodeS (l : List (S32)) : Prop := bulkNodeS l ≤ 4194304
theorem bulkNodeS_len : ∀ l : List (S32), l.length ≤ bulkNodeS l
  | [] => by simp [bulkNodeS]
  | x :: xs => by have := bulkNodeS_len xs; simp only [bulkNodeS, List.length_cons]; omega
theorem bulkNodeS_at : ∀ (l : List (S32)) (i : Nat), i < l.length → bulkKeySS (l.getD i z32).f0 ≤ bulkNodeS l
  | x :: xs, 0, _ => by simp only [bulkNodeS, List.getD_cons_zero]; omega
  | x :: xs, i + 1, h => by
    have := bulkNodeS_at xs i (by simpa using h)
    simp only [bulkNodeS, List.getD_cons_succ]; omega
theorem okNodeS_at {l : List (S32)} (h : okNodeS l) (i : Nat) (hi : i < l.length) : okKeySS (l.getD i z32).f0 := by
  have h1 := bulkNodeS_at l i hi
  unfold okNodeS at h
  show bulkKeySS (l.getD i z32).f0 ≤ 4194304
  omega
theorem okNodeS_len {l : List (S32)} (h : okNodeS l) : l.length ≤ 4194304 := by have := bulkNodeS_len l; unfold okNodeS at h; omega

theorem eqNodeS_ev (l : List (S32)) (ho : okNodeS l) : Ev (fun k => laws_eqNodeS.f k l l) true := by
  have h := okNodeS_len ho
  obtain ⟨K, hk⟩ := evRange0 (σ := Unit) l.length (fun k _ i => laws_eqNodeS.l0 k l l i) (fun _ _ => True) (fun _ _ => true) () trivial
    (by
      intro i _ hi _
      have hr : rd_T32 l (i : Int) = l.getD i z32 := by simp [rd_T32]
      obtain ⟨K, e⟩ := eqNode_ev (l.getD i z32).f0 (okNodeS_at ho i hi)
      refine .inl ⟨(), trivial, rfl, K, 1, fun k hk => ?_⟩
      have e1 := e k hk
      simp only at e1
      simp only [laws_eqNodeS.l0, hr, e1, Option.bind_some]
      rw [if_pos (by omega), if_pos (by omega), if_pos (by omega), if_pos trivial, w64s i (by omega)])
    (by
      intro _ _
      refine ⟨0, 1, fun k _ => ?_⟩
      simp only [laws_eqNodeS.l0]
      rw [if_neg (by omega)])
  refine ⟨K, fun k hk' => ?_⟩
  simp only [laws_eqNodeS.f]
  rw [if_pos trivial]
  exact hk k hk'

theorem eqTree_ev (l : List Int) (n : List S32) (h1 : okIntS l) (h2 : okNodeS n) : Ev (fun k => laws_eqTree.f k l n l n) true := by
  obtain ⟨K, e⟩ := eqIntS_ev l h1
  obtain ⟨K2, e2⟩ := eqNodeS_ev n h2
  refine ⟨K + K2, fun k hk => ?_⟩
  have a1 := e k (by omega)
  have a2 := e2 k (by omega)
  simp only at a1 a2
  simp only [laws_eqTree.f, a1, a2, Option.bind_some]
  rfl

def mkIntS (l : List Int) (a : Int) : List Int := (List.range l.length).map fun (i : Nat) => a + (i : Int)
theorem mkIntS_length (l : List Int) (a : Int) : (mkIntS l a).length = l.length := by simp [mkIntS]
theorem markIntS_ev (l : List Int) (a : Int) (ho : okIntS l) (h0 : 0 ≤ a) (h1 : a ≤ 1099511627776) : Ev (fun k => laws_markIntS.f k l a) (a + cntIntS l, mkIntS l a) := by
  have h : l.length ≤ 4194304 := ho
  obtain ⟨K, hk⟩ := evRange0 (σ := List Int × Int) l.length (fun k s i => laws_markIntS.l0 k s.1 s.2 i) (fun i s => s = (fill (fun i => a + (i : Int)) l i, a + i)) (fun _ _ => (a + cntIntS l, mkIntS l a)) (l, a) (by simp [fill_zero])
    (by
      intro i s hi hs
      subst hs
      refine .inl ⟨_, rfl, rfl, 0, 1, fun k _ => ?_⟩
      have hl := fill_length (fun i => a + (i : Int)) l i (by omega)
      simp only [laws_markIntS.l0]
      rw [if_pos (by omega), if_pos (by omega), w64 (x := a + (i : Int) + 1) (by omega) (by omega), w64s i (by omega), Int.toNat_natCast, fill_set _ l i hi rfl]
      congr 1
      push_cast
      omega)
    (by
      intro s hs
      subst hs
      refine ⟨0, 1, fun k _ => ?_⟩
      have hl := fill_length (fun i => a + (i : Int)) l l.length (by omega)
      simp only [laws_markIntS.l0]
      rw [if_neg (by omega), fill_all]
      rfl)
  exact ⟨K, fun k hk' => hk k hk'⟩

def mkK (a : Int) (i : Nat) : S27 := ⟨a + 5 * i, a + 5 * i + 1, a + 5 * i + 2, a + 5 * i + 3, a + 5 * i + 4⟩
def mkKeyS (l : List S27) (a : Int) : List S27 := (List.range l.length).map (mkK a)
theorem mkKeyS_length (l : List S27) (a : Int) : (mkKeyS l a).length = l.length := by simp [mkKeyS]
theorem markKeyS_ev (l : List S27) (a : Int) (ho : okKeyS l) (h0 : 0 ≤ a) (h1 : a ≤ 1099511627776) : Ev (fun k => laws_markKeyS.f k l a) (a + cntKeyS l, mkKeyS l a) := by
  have h : l.length ≤ 4194304 := ho
  obtain ⟨K, hk⟩ := evRange0 (σ := List S27 × Int) l.length (fun k s i => laws_markKeyS.l0 k s.1 s.2 i) (fun i s => s = (fill (mkK a) l i, a + 5 * i)) (fun _ _ => (a + cntKeyS l, mkKeyS l a)) (l, a) (by simp [fill_zero])
    (by
      intro i s hi hs
      subst hs
      refine .inl ⟨_, rfl, rfl, 0, 1, fun k _ => ?_⟩
      have hl := fill_length (mkK a) l i (by omega)
      simp only [laws_markKeyS.l0]
      rw [if_pos (by omega), if_pos (by omega)]
      simp only [Option.bind_some]
      rw [w64 (x := a + 5 * (i : Int) + 1) (by omega) (by omega), w64 (x := a + 5 * (i : Int) + 1 + 1) (by omega) (by omega), w64 (x := a + 5 * (i : Int) + 1 + 1 + 1) (by omega) (by omega), w64 (x := a + 5 * (i : Int) + 1 + 1 + 1 + 1) (by omega) (by omega), w64 (x := a + 5 * (i : Int) + 1 + 1 + 1 + 1 + 1) (by omega) (by omega), w64s i (by omega), Int.toNat_natCast]
      have hr : ∀ (m : List S27) (v : S27), i < m.length → rd_T27 (m.set i v) (i : Int) = v := fun m v hm => by simp [rd_T27, hm]
      rw [hr _ _ (by omega), hr _ _ (by simp; omega), hr _ _ (by simp; omega), hr _ _ (by simp; omega)]
      simp only [List.set_set]
      rw [fill_set (mkK a) l i hi (by simp only [mkK]; congr 1 <;> omega)]
      congr 1
      push_cast
      omega)
    (by
      intro s hs
      subst hs
      refine ⟨0, 1, fun k _ => ?_⟩
      have hl := fill_length (mkK a) l l.length (by omega)
      simp only [laws_markKeyS.l0]
      rw [if_neg (by omega), fill_all]
      rfl)
  exact ⟨K, fun k hk' => hk k hk'⟩

theorem heldIntS_ev (l : List Int) (a : Int) (ho : okIntS l) (h0 : 0 ≤ a) (h1 : a ≤ 1099511627776) : Ev (fun k => laws_heldIntS.f k (mkIntS l a) a) (a + cntIntS l) := by
  have h : l.length ≤ 4194304 := ho
  have hl := mkIntS_length l a
  obtain ⟨K, hk⟩ := evRange0 (σ := Int) l.length (fun k s i => laws_heldIntS.l0 k (mkIntS l a) s i) (fun i s => s = a + i) (fun _ _ => a + cntIntS l) a (by simp)
    (by
      intro i s hi hs
      subst hs
      refine .inl ⟨_, rfl, rfl, 0, 1, fun k _ => ?_⟩
      have hr : rd (mkIntS l a) (i : Int) = a + (i : Int) := by
        unfold mkIntS
        rw [rd_nat, range_getD _ _ _ _ hi]
      simp only [laws_heldIntS.l0]
      rw [if_pos (by omega), if_pos (by omega), if_pos hr, w64 (x := a + (i : Int) + 1) (by omega) (by omega), w64s i (by omega)]
      congr 1
      push_cast
      omega)
    (by
      intro s hs
      subst hs
      refine ⟨0, 1, fun k _ => ?_⟩
      simp only [laws_heldIntS.l0]
      rw [if_neg (by omega)]
      rfl)
  exact ⟨K, fun k hk' => hk k hk'⟩

theorem heldKeyS_ev (l : List S27) (a : Int) (ho : okKeyS l) (h0 : 0 ≤ a) (h1 : a ≤ 1099511627776) : Ev (fun k => laws_heldKeyS.f k (mkKeyS l a) a) (a + cntKeyS l) := by
  have h : l.length ≤ 4194304 := ho
  have hl := mkKeyS_length l a
  obtain ⟨K, hk⟩ := evRange0 (σ := Int) l.length (fun k s i => laws_heldKeyS.l0 k (mkKeyS l a) s i) (fun i s => s = a + 5 * i) (fun _ _ => a + cntKeyS l) a (by simp)
    (by
      intro i s hi hs
      subst hs
      refine .inl ⟨_, rfl, rfl, 0, 1, fun k _ => ?_⟩
      have hr : rd_T27 (mkKeyS l a) (i : Int) = mkK a i := by
        unfold rd_T27 mkKeyS
        rw [Int.toNat_natCast, range_getD _ _ _ _ hi]
      simp only [laws_heldKeyS.l0]
      rw [if_pos (by omega), if_pos (by omega), hr]
      rw [w64 (x := a + 5 * (i : Int) + 1) (by omega) (by omega), w64 (x := a + 5 * (i : Int) + 1 + 1) (by omega) (by omega), w64 (x := a + 5 * (i : Int) + 1 + 1 + 1) (by omega) (by omega), w64 (x := a + 5 * (i : Int) + 1 + 1 + 1 + 1) (by omega) (by omega), w64 (x := a + 5 * (i : Int) + 1 + 1 + 1 + 1 + 1) (by omega) (by omega), w64s i (by omega)]
      rw [if_pos (show (mkK a i).f0 = a + 5 * (i : Int) from rfl), if_pos (show (mkK a i).f1 = a + 5 * (i : Int) + 1 from rfl), if_pos (show (mkK a i).f2 = a + 5 * (i : Int) + 1 + 1 by simp only [mkK]; omega), if_pos (show (mkK a i).f3 = a + 5 * (i : Int) + 1 + 1 + 1 by simp only [mkK]; omega), if_pos (show (mkK a i).f4 = a + 5 * (i : Int) + 1 + 1 + 1 + 1 by simp only [mkK]; omega)]
      congr 1
      push_cast
      omega)
    (by
      intro s hs
      subst hs
      refine ⟨0, 1, fun k _ => ?_⟩
      simp only [laws_heldKeyS.l0]
      rw [if_neg (by omega)]
      rfl)
  exact ⟨K, fun k hk' => hk k hk'⟩

theorem cntKeyS_nn' (x : List S27) : 0 ≤ cntKeyS x := by unfold cntKeyS; omega
def cntKeySS (l : List (List S27)) : Int := cntL cntKeyS l
def mkKeySS (l : List (List S27)) (a : Int) : List (List S27) := mkL mkKeyS cntKeyS l a
theorem cntKeySS_nn0 (l : List (List S27)) : 0 ≤ cntKeySS l := cntL_nn cntKeyS cntKeyS_nn' l
theorem cntKeySS_bulk : ∀ l : List (List S27), cntKeySS l ≤ 5 * (bulkKeySS l : Int)
  | [] => by simp [cntKeySS, cntL, bulkKeySS]
  | x :: xs => by
    have := cntKeySS_bulk xs
    simp only [cntKeySS] at this
    simp only [cntKeySS, cntL, bulkKeySS, cntKeyS]
    push_cast
    omega
theorem cntKeySS_nn {l : List (List S27)} (h : okKeySS l) : 0 ≤ cntKeySS l ∧ cntKeySS l ≤ 20971520 := by
  have := cntKeySS_bulk l
  have := cntKeySS_nn0 l
  unfold okKeySS at h
  omega
theorem cntKeySS_take (l : List (List S27)) (i : Nat) : 0 ≤ cntKeySS (l.take i) ∧ cntKeySS (l.take i) ≤ cntKeySS l := ⟨cntKeySS_nn0 _, cntL_take_le cntKeyS cntKeyS_nn' l i⟩

theorem heldKeySS_ev (l : List (List S27)) (a : Int) (ho : okKeySS l) (h0 : 0 ≤ a) (h1 : a ≤ 1000000000000) : Ev (fun k => laws_heldKeySS.f k (mkKeySS l a) a) (a + cntKeySS l) := by
  have h := okKeySS_len ho
  have hl : (mkKeySS l a).length = l.length := mkL_length _ _ _ _
  have hc := cntKeySS_nn ho
  obtain ⟨K, hk⟩ := evRange0 (σ := Int) l.length (fun k s i => laws_heldKeySS.l0 k (mkKeySS l a) s i) (fun i s => s = a + cntKeySS (l.take i)) (fun _ _ => a + cntKeySS l) a (by simp [cntKeySS, cntL])
    (by
      intro i s hi hs
      subst hs
      have ht := cntKeySS_take l i
      have hr : rd_L2 (mkKeySS l a) (i : Int) = mkKeyS (l.getD i []) (a + cntKeySS (l.take i)) := by
        unfold rd_L2
        rw [Int.toNat_natCast]
        exact mkL_getD mkKeyS cntKeyS [] l a i hi
      obtain ⟨K, e⟩ := heldKeyS_ev (l.getD i []) (a + cntKeySS (l.take i)) (okKeySS_at ho i hi) (by omega) (by omega)
      have hs' : cntKeySS (l.take (i + 1)) = cntKeySS (l.take i) + cntKeyS (l.getD i []) := cntL_take cntKeyS [] l i hi
      have hn := cntKeyS_nn' (l.getD i [])
      refine .inl ⟨_, rfl, rfl, K, 1, fun k hk => ?_⟩
      have e1 := e k hk
      simp only at e1
      simp only [laws_heldKeySS.l0, hr, e1, Option.bind_some]
      rw [if_pos (by omega), if_pos (by omega), if_neg (by omega), w64s i (by omega), hs']
      congr 1
      omega)
    (by
      intro s hs
      subst hs
      refine ⟨0, 1, fun k _ => ?_⟩
      simp only [laws_heldKeySS.l0]
      rw [if_neg (by omega), List.take_length])
  exact ⟨K, fun k hk' => hk k hk'⟩

def mkNode (x : S32) (a : Int) : S32 := ⟨mkKeySS x.f0 a⟩
def cntNode (x : S32) : Int := cntKeySS x.f0
theorem cntNode_nn (x : S32) : 0 ≤ cntNode x := cntKeySS_nn0 x.f0
def cntNodeS (l : List S32) : Int := cntL cntNode l
def mkNodeS (l : List S32) (a : Int) : List S32 := mkL mkNode cntNode l a
theorem cntNodeS_nn0 (l : List S32) : 0 ≤ cntNodeS l := cntL_nn cntNode cntNode_nn l
theorem cntNodeS_bulk : ∀ l : List S32, cntNodeS l ≤ 5 * (bulkNodeS l : Int)
  | [] => by simp [cntNodeS, cntL, bulkNodeS]
  | x :: xs => by
    have := cntNodeS_bulk xs
    have := cntKeySS_bulk x.f0
    simp only [cntNodeS] at *
    simp only [cntL, bulkNodeS, cntNode] at *
    push_cast
    omega
theorem cntNodeS_nn {l : List S32} (h : okNodeS l) : 0 ≤ cntNodeS l ∧ cntNodeS l ≤ 20971520 := by
  have := cntNodeS_bulk l
  have := cntNodeS_nn0 l
  unfold okNodeS at h
  omega
theorem cntNodeS_take (l : List S32) (i : Nat) : 0 ≤ cntNodeS (l.take i) ∧ cntNodeS (l.take i) ≤ cntNodeS l := ⟨cntNodeS_nn0 _, cntL_take_le cntNode cntNode_nn l i⟩

theorem heldNodeS_ev (l : List S32) (a : Int) (ho : okNodeS l) (h0 : 0 ≤ a) (h1 : a ≤ 900000000000) : Ev (fun k => laws_heldNodeS.f k (mkNodeS l a) a) (a + cntNodeS l) := by
  have h := okNodeS_len ho
  have hl : (mkNodeS l a).length = l.length := mkL_length _ _ _ _
  have hc := cntNodeS_nn ho
  obtain ⟨K, hk⟩ := evRange0 (σ := Int) l.length (fun k s i => laws_heldNodeS.l0 k (mkNodeS l a) s i) (fun i s => s = a + cntNodeS (l.take i)) (fun _ _ => a + cntNodeS l) a (by simp [cntNodeS, cntL])
    (by
      intro i s hi hs
      subst hs
      have ht := cntNodeS_take l i
      have hr : rd_T32 (mkNodeS l a) (i : Int) = mkNode (l.getD i z32) (a + cntNodeS (l.take i)) := by
        unfold rd_T32
        rw [Int.toNat_natCast]
        exact mkL_getD mkNode cntNode z32 l a i hi
      obtain ⟨K, e⟩ := heldKeySS_ev (l.getD i z32).f0 (a + cntNodeS (l.take i)) (okNodeS_at ho i hi) (by omega) (by omega)
      have hs' : cntNodeS (l.take (i + 1)) = cntNodeS (l.take i) + cntNode (l.getD i z32) := cntL_take cntNode z32 l i hi
      have hn : 0 ≤ cntKeySS (l.getD i z32).f0 := cntKeySS_nn0 _
      refine .inl ⟨_, rfl, rfl, K, 1, fun k hk => ?_⟩
      have e1 := e k hk
      simp only at e1
      simp only [laws_heldNodeS.l0, hr, mkNode, e1, Option.bind_some]
      rw [if_pos (by omega), if_pos (by omega), if_neg (by omega), w64s i (by omega), hs']
      unfold cntNode
      congr 1
      omega)
    (by
      intro s hs
      subst hs
      refine ⟨0, 1, fun k _ => ?_⟩
      simp only [laws_heldNodeS.l0]
      rw [if_neg (by omega), List.take_length])
  exact ⟨K, fun k hk' => hk k hk'⟩

theorem heldTree_ev (l : List Int) (m : List S32) (a : Int) (ho : okIntS l) (ho2 : okNodeS m) (h0 : 0 ≤ a) (h1 : a ≤ 800000000000) : Ev (fun k => laws_heldTree.f k (mkIntS l a) (mkNodeS m (a + cntIntS l)) a) (a + (cntIntS l + cntNodeS m)) := by
  have hc := cntIntS_nn ho
  have hc2 := cntNodeS_nn ho2
  unfold laws_heldTree.f
  refine Ev.bind (heldIntS_ev l a ho h0 (by omega)) ?_
  simp only [if_neg (show ¬ a + cntIntS l < 0 by omega)]
  refine Ev.bind (heldNodeS_ev m _ ho2 (by omega) (by omega)) ?_
  simp only [if_neg (show ¬ a + cntIntS l + cntNodeS m < 0 by omega)]
  rw [show a + (cntIntS l + cntNodeS m) = a + cntIntS l + cntNodeS m by omega]
  exact Ev.now _

end Go.Proofs.Ythpfihklkcnckaa.Pure
