/- What the functions that the law reaches answer, as plain functions of numbers and lists; each says its conditions itself. -/
import Derived.Test.YtilhcaofpfeioaaMFnExactDevNewx0
import Derived.Test.YtilhcaofpfeioaaMFnExactDevNewx1
import Derived.Test.YtilhcaofpfeioaaMFnExactDevNewx2
import Derived.Test.YtilhcaofpfeioaaMFnExactDevNewx3
import Derived.Test.YtilhcaofpfeioaaCore
import Derived.Test.YtilhcaofpfeioaaMarks
namespace Go.Proofs.Ytilhcaofpfeioaa.Pure
open Go.RowKit Go.Proofs.Ytilhcaofpfeioaa.PFnExactDevNew Go.Proofs.Ytilhcaofpfeioaa.Core Go.Proofs.YtilhcaofpfeioaaW.PrintWords Go.Proofs.YtilhcaofpfeioaaW.PrintLast Go.Proofs.YtilhcaofpfeioaaW.PrintMore
set_option linter.unusedSimpArgs false
set_option linter.unusedVariables false

theorem spec_l1In_f (a b c : Int) : spec_l1In.f a b c = some (decide (b ≤ a ∧ a ≤ c)) := by
  unfold spec_l1In.f
  by_cases h : a ≥ b
  · rw [if_pos h]; congr 1; rw [Bool.eq_iff_iff]; simp; omega
  · rw [if_neg h]; congr 1; rw [Bool.eq_iff_iff]; simp; omega

def okByteS (l : List Int) : Prop := l.length ≤ 4194304
def cntByteS (l : List Int) : Int := l.length
theorem cntByteS_nn {l : List Int} (h : okByteS l) : 0 ≤ cntByteS l ∧ cntByteS l ≤ 1073741824 := by unfold okByteS at h; unfold cntByteS; omega
def inByteS (l : List Int) : Prop := l.length ≤ 1048576
theorem ok_of_inByteS {l : List Int} (h : inByteS l) : okByteS l := by unfold inByteS at h; unfold okByteS; omega
def sumByteS (l : List Int) : Int := l.length
theorem sumByteS_nn (l : List Int) : 0 ≤ sumByteS l := by unfold sumByteS; omega
theorem in_of_sumByteS {l : List Int} (h : sumByteS l ≤ 1048576) : inByteS l := by unfold sumByteS at h; unfold inByteS; omega

/-! A slice of them. -/
def convByteSS (l : List (List Int)) : List (List Int) := l.map fun x => x
def sumByteSS : List (List Int) → Int
  | [] => 0
  | x :: xs => 1 + sumByteS x + sumByteSS xs
theorem sumByteSS_nn : ∀ l : List (List Int), (l.length : Int) ≤ sumByteSS l
  | [] => by simp [sumByteSS]
  | x :: xs => by
    have := sumByteSS_nn xs
    have := sumByteS_nn x
    simp only [sumByteSS, List.length_cons]
    omega
theorem sumByteSS_pos (l : List (List Int)) : 0 ≤ sumByteSS l := by have := sumByteSS_nn l; omega
theorem sumByteSS_at : ∀ (l : List (List Int)) (i : Nat), i < l.length → 1 + sumByteS (l.getD i []) + sumByteSS (l.drop (i + 1)) = sumByteSS (l.drop i) := by
  intro l i hi
  rw [drop_getD l i [] hi]
  rfl
theorem sumByteSS_drop : ∀ (l : List (List Int)) (i : Nat), sumByteSS (l.drop i) ≤ sumByteSS l
  | [], i => by simp
  | x :: xs, 0 => by simp
  | x :: xs, i + 1 => by
    have := sumByteSS_drop xs i
    have := sumByteS_nn x
    simp only [List.drop_succ_cons, sumByteSS]
    omega
def inByteSS (l : List (List Int)) : Prop := sumByteSS l ≤ 1048576
theorem in_of_sumByteSS {l : List (List Int)} (h : sumByteSS l ≤ 1048576) : inByteSS l := h
theorem inByteSS_len {l : List (List Int)} (h : inByteSS l) : l.length ≤ 1048576 := by have := sumByteSS_nn l; unfold inByteSS at h; omega
theorem inByteSS_at {l : List (List Int)} (h : inByteSS l) (i : Nat) (hi : i < l.length) : inByteS (l.getD i []) := by
  have h1 := sumByteSS_at l i hi
  have h2 := sumByteSS_drop l i
  have h3 := sumByteSS_nn (l.drop (i + 1))
  unfold inByteSS at h
  exact in_of_sumByteS (by omega)
/-- What the impl's side holds, all in all. -/
def bulkByteSS : List (List Int) → Nat
  | [] => 0
  | x :: xs => 1 + x.length + bulkByteSS xs
def okByteSS (l : List (List Int)) : Prop := bulkByteSS l ≤ 4194304
theorem bulkByteSS_len : ∀ l : List (List Int), l.length ≤ bulkByteSS l
  | [] => by simp [bulkByteSS]
  | x :: xs => by have := bulkByteSS_len xs; simp only [bulkByteSS, List.length_cons]; omega
theorem bulkByteSS_at : ∀ (l : List (List Int)) (i : Nat), i < l.length → (l.getD i []).length ≤ bulkByteSS l
  | x :: xs, 0, _ => by simp only [bulkByteSS, List.getD_cons_zero]; omega
  | x :: xs, i + 1, h => by
    have := bulkByteSS_at xs i (by simpa using h)
    simp only [bulkByteSS, List.getD_cons_succ]; omega
theorem okByteSS_at {l : List (List Int)} (h : okByteSS l) (i : Nat) (hi : i < l.length) : okByteS (l.getD i []) := by
  have h1 := bulkByteSS_at l i hi
  unfold okByteSS at h
  show (l.getD i []).length ≤ 4194304
  omega
theorem okByteSS_len {l : List (List Int)} (h : okByteSS l) : l.length ≤ 4194304 := by have := bulkByteSS_len l; unfold okByteSS at h; omega
theorem bulk_convByteSS : ∀ l : List (List Int), (bulkByteSS (convByteSS l) : Int) = sumByteSS l
  | [] => rfl
  | x :: xs => by
    have h1 := bulk_convByteSS xs
    have h2 : (((x).length : Nat) : Int) = sumByteS x := rfl
    (try simp only at h2)
    simp only [convByteSS] at h1
    simp only [convByteSS, List.map_cons, bulkByteSS, sumByteSS]
    omega
theorem ok_of_inByteSS {l : List (List Int)} (h : inByteSS l) : okByteSS (convByteSS l) := by
  have := bulk_convByteSS l
  unfold inByteSS at h
  unfold okByteSS
  omega

/-- What the impl's side holds, all in all. -/
def bulkWrS : List (S50) → Nat
  | [] => 0
  | x :: xs => 1 + x.f1.length + bulkWrS xs
def okWrS (l : List (S50)) : Prop := bulkWrS l ≤ 4194304
theorem bulkWrS_len : ∀ l : List (S50), l.length ≤ bulkWrS l
  | [] => by simp [bulkWrS]
  | x :: xs => by have := bulkWrS_len xs; simp only [bulkWrS, List.length_cons]; omega
theorem bulkWrS_at : ∀ (l : List (S50)) (i : Nat), i < l.length → (l.getD i z50).f1.length ≤ bulkWrS l
  | x :: xs, 0, _ => by simp only [bulkWrS, List.getD_cons_zero]; omega
  | x :: xs, i + 1, h => by
    have := bulkWrS_at xs i (by simpa using h)
    simp only [bulkWrS, List.getD_cons_succ]; omega
theorem okWrS_at {l : List (S50)} (h : okWrS l) (i : Nat) (hi : i < l.length) : okByteS (l.getD i z50).f1 := by
  have h1 := bulkWrS_at l i hi
  unfold okWrS at h
  show (l.getD i z50).f1.length ≤ 4194304
  omega
theorem okWrS_len {l : List (S50)} (h : okWrS l) : l.length ≤ 4194304 := by have := bulkWrS_len l; unfold okWrS at h; omega

def wrOkB (n : Nat) (x : S50) : Bool := decide (0 ≤ x.f0 ∧ x.f0 ≤ (n : Int) - 1) && decide ((x.f1.length : Int) ≤ 80)
def devOkB (s : List (List Int)) (c : List S50) (f : Int) : Bool :=
  allFrom (fun i => decide (((s.getD i []).length : Int) ≤ 80)) s.length 0 && (allFrom (fun i => wrOkB s.length (c.getD i z50)) c.length 0 && (decide (1 ≤ (s.length : Int) ∧ (s.length : Int) ≤ 60) && (decide ((c.length : Int) ≤ 60) && decide (-1 ≤ f ∧ f ≤ 1000))))

def devNew (n : Int) : List (List Int) × List S50 × Int × Bool := if 1 ≤ n ∧ n ≤ 60 then (List.replicate n.toNat [], [], -1, false) else ([], [], 0, false)
theorem devNew_cache (n : Int) : (devNew n).2.1 = [] := by unfold devNew; split <;> rfl
theorem bulkByteSS_replicate : ∀ n : Nat, bulkByteSS (List.replicate n []) = n
  | 0 => rfl
  | n + 1 => by rw [List.replicate_succ]; simp only [bulkByteSS, bulkByteSS_replicate n, List.length_nil]; omega
theorem okByteSS_devNew (n : Int) : okByteSS (devNew n).1 := by
  unfold devNew okByteSS
  split
  · simp only [bulkByteSS_replicate]; omega
  · simp [bulkByteSS]
theorem okWrS_devNew (n : Int) : okWrS (devNew n).2.1 := by rw [devNew_cache]; simp [okWrS, bulkWrS]

theorem spec_DevNew_ev (n : Int) : Ev (fun k => spec_DevNew.f k n) (devNew n) := by
  unfold spec_DevNew.f devNew
  simp only [spec_l1In_f, Option.bind_some]
  by_cases c : 1 ≤ n ∧ n ≤ 60
  · simp only [decide_eq_true c, if_true, if_pos c]
    obtain ⟨m, rfl⟩ := Int.eq_ofNat_of_zero_le (show 0 ≤ n by omega)
    obtain ⟨K, hk⟩ := evRange0 (σ := List (List Int)) m (fun k s i => spec_DevNew.l0 k (m : Int) i s (-1) false) (fun i s => s = List.replicate i []) (fun _ _ => (List.replicate m [], [], -1, false)) [] rfl
      (by
        intro i s hi hs
        subst hs
        refine .inl ⟨_, rfl, rfl, 0, 1, fun k _ => ?_⟩
        simp only [spec_DevNew.l0]
        rw [if_pos (by omega), if_pos (by rw [List.length_replicate]; omega), w64s i (by omega), List.replicate_succ'])
      (by
        intro s hs
        subst hs
        refine ⟨0, 1, fun k _ => ?_⟩
        simp only [spec_DevNew.l0]
        rw [if_neg (by omega)])
    exact ⟨K, fun k hk' => by simpa using hk k hk'⟩
  · simp only [decide_eq_false c, if_neg c]
    exact evOf fun _ => by simp

theorem impl_within_f (a b c : Int) : impl_within.f a b c = some (decide (b ≤ a ∧ a ≤ c)) := by
  unfold impl_within.f
  by_cases h : a ≥ b
  · rw [if_pos h]; congr 1; rw [Bool.eq_iff_iff]; simp; omega
  · rw [if_neg h]; congr 1; rw [Bool.eq_iff_iff]; simp; omega

theorem impl_DevNew_ev (n : Int) : Ev (fun _ => impl_DevNew.f n) (devNew n) := by
  refine evOf fun _ => ?_
  simp only [impl_DevNew.f, impl_within_f, Option.bind_some, devNew]
  by_cases c : 1 ≤ n ∧ n ≤ 60
  · rw [decide_eq_true c, if_pos rfl, if_pos (by omega), if_pos (by omega), if_pos c]
  · rw [decide_eq_false c, if_neg (by simp), if_neg c]

theorem eqByteS_ev (l : List Int) (ho : okByteS l) : Ev (fun k => laws_eqByteS.f k l l) true := by
  have h : l.length ≤ 4194304 := ho
  obtain ⟨K, hk⟩ := evRange0 (σ := Unit) l.length (fun k _ i => laws_eqByteS.l0 k l l i) (fun _ _ => True) (fun _ _ => true) () trivial
    (by
      intro i _ hi _
      refine .inl ⟨(), trivial, rfl, 0, 1, fun k _ => ?_⟩
      simp only [laws_eqByteS.l0]
      rw [if_pos (by omega), if_pos (by omega), if_pos (by omega), if_pos trivial, w64s i (by omega)])
    (by
      intro _ _
      refine ⟨0, 1, fun k _ => ?_⟩
      simp only [laws_eqByteS.l0]
      rw [if_neg (by omega)])
  refine ⟨K, fun k hk' => ?_⟩
  simp only [laws_eqByteS.f]
  rw [if_pos trivial]
  exact hk k hk'

theorem eqByteSS_ev (l : List (List Int)) (ho : okByteSS l) : Ev (fun k => laws_eqByteSS.f k l l) true := by
  have h := okByteSS_len ho
  obtain ⟨K, hk⟩ := evRange0 (σ := Unit) l.length (fun k _ i => laws_eqByteSS.l0 k l l i) (fun _ _ => True) (fun _ _ => true) () trivial
    (by
      intro i _ hi _
      have hr : rd_L1 l (i : Int) = l.getD i [] := by simp [rd_L1]
      obtain ⟨K, e⟩ := eqByteS_ev (l.getD i []) (okByteSS_at ho i hi)
      refine .inl ⟨(), trivial, rfl, K, 1, fun k hk => ?_⟩
      have e1 := e k hk
      simp only at e1
      simp only [laws_eqByteSS.l0, hr, e1, Option.bind_some]
      rw [if_pos (by omega), if_pos (by omega), if_pos (by omega), if_pos trivial, w64s i (by omega)])
    (by
      intro _ _
      refine ⟨0, 1, fun k _ => ?_⟩
      simp only [laws_eqByteSS.l0]
      rw [if_neg (by omega)])
  refine ⟨K, fun k hk' => ?_⟩
  simp only [laws_eqByteSS.f]
  rw [if_pos trivial]
  exact hk k hk'

theorem eqWr_ev (n : Int) (l : List Int) (ho : okByteS l) : Ev (fun k => laws_eqWr.f k n l n l) true := by
  obtain ⟨K, e⟩ := eqByteS_ev l ho
  refine ⟨K, fun k hk => ?_⟩
  have e1 := e k hk
  simp only at e1
  simp only [laws_eqWr.f, e1, Option.bind_some, if_true]

theorem eqWrS_ev (l : List (S50)) (ho : okWrS l) : Ev (fun k => laws_eqWrS.f k l l) true := by
  have h := okWrS_len ho
  obtain ⟨K, hk⟩ := evRange0 (σ := Unit) l.length (fun k _ i => laws_eqWrS.l0 k l l i) (fun _ _ => True) (fun _ _ => true) () trivial
    (by
      intro i _ hi _
      have hr : rd_T50 l (i : Int) = l.getD i z50 := by simp [rd_T50]
      obtain ⟨K, e⟩ := eqWr_ev (l.getD i z50).f0 (l.getD i z50).f1 (okWrS_at ho i hi)
      refine .inl ⟨(), trivial, rfl, K, 1, fun k hk => ?_⟩
      have e1 := e k hk
      simp only at e1
      simp only [laws_eqWrS.l0, hr, e1, Option.bind_some]
      rw [if_pos (by omega), if_pos (by omega), if_pos (by omega), if_pos trivial, w64s i (by omega)])
    (by
      intro _ _
      refine ⟨0, 1, fun k _ => ?_⟩
      simp only [laws_eqWrS.l0]
      rw [if_neg (by omega)])
  refine ⟨K, fun k hk' => ?_⟩
  simp only [laws_eqWrS.f]
  rw [if_pos trivial]
  exact hk k hk'

theorem eqDev_ev (l : List (List Int)) (n : List S50) (f : Int) (d : Bool) (h1 : okByteSS l) (h2 : okWrS n) : Ev (fun k => laws_eqDev.f k l n f d l n f d) true := by
  obtain ⟨K, e⟩ := eqByteSS_ev l h1
  obtain ⟨K2, e2⟩ := eqWrS_ev n h2
  refine ⟨K + K2, fun k hk => ?_⟩
  have a1 := e k (by omega)
  have a2 := e2 k (by omega)
  simp only at a1 a2
  simp only [laws_eqDev.f, a1, a2, Option.bind_some, if_true, bne_self_eq_false, Bool.false_eq_true, if_false]

def mkByteS (l : List Int) (a : Int) : List Int := (List.range l.length).map fun (i : Nat) => (a + (i : Int)) % 256
theorem mkByteS_length (l : List Int) (a : Int) : (mkByteS l a).length = l.length := by simp [mkByteS]
theorem markByteS_ev (l : List Int) (a : Int) (ho : okByteS l) (h0 : 0 ≤ a) (h1 : a ≤ 1099511627776) : Ev (fun k => laws_markByteS.f k l a) (a + cntByteS l, mkByteS l a) := by
  have h : l.length ≤ 4194304 := ho
  obtain ⟨K, hk⟩ := evRange0 (σ := List Int × Int) l.length (fun k s i => laws_markByteS.l0 k s.1 s.2 i) (fun i s => s = (fill (fun i => (a + (i : Int)) % 256) l i, a + i)) (fun _ _ => (a + cntByteS l, mkByteS l a)) (l, a) (by simp [fill_zero])
    (by
      intro i s hi hs
      subst hs
      refine .inl ⟨_, rfl, rfl, 0, 1, fun k _ => ?_⟩
      have hl := fill_length (fun i => (a + (i : Int)) % 256) l i (by omega)
      simp only [laws_markByteS.l0]
      rw [if_pos (by omega), if_pos (by omega), w64 (x := a + (i : Int) + 1) (by omega) (by omega), w64s i (by omega), Int.toNat_natCast, fill_set _ l i hi rfl]
      congr 1
      push_cast
      omega)
    (by
      intro s hs
      subst hs
      refine ⟨0, 1, fun k _ => ?_⟩
      have hl := fill_length (fun i => (a + (i : Int)) % 256) l l.length (by omega)
      simp only [laws_markByteS.l0]
      rw [if_neg (by omega), fill_all]
      rfl)
  exact ⟨K, fun k hk' => hk k hk'⟩

theorem heldByteS_ev (l : List Int) (a : Int) (ho : okByteS l) (h0 : 0 ≤ a) (h1 : a ≤ 1099511627776) : Ev (fun k => laws_heldByteS.f k (mkByteS l a) a) (a + cntByteS l) := by
  have h : l.length ≤ 4194304 := ho
  have hl := mkByteS_length l a
  obtain ⟨K, hk⟩ := evRange0 (σ := Int) l.length (fun k s i => laws_heldByteS.l0 k (mkByteS l a) s i) (fun i s => s = a + i) (fun _ _ => a + cntByteS l) a (by simp)
    (by
      intro i s hi hs
      subst hs
      refine .inl ⟨_, rfl, rfl, 0, 1, fun k _ => ?_⟩
      have hr : rd (mkByteS l a) (i : Int) = (a + (i : Int)) % 256 := by
        unfold mkByteS
        rw [rd_nat, range_getD _ _ _ _ hi]
      simp only [laws_heldByteS.l0]
      rw [if_pos (by omega), if_pos (by omega), if_pos hr, w64 (x := a + (i : Int) + 1) (by omega) (by omega), w64s i (by omega)]
      congr 1
      push_cast
      omega)
    (by
      intro s hs
      subst hs
      refine ⟨0, 1, fun k _ => ?_⟩
      simp only [laws_heldByteS.l0]
      rw [if_neg (by omega)]
      rfl)
  exact ⟨K, fun k hk' => hk k hk'⟩

theorem cntByteS_nn' (x : List Int) : 0 ≤ cntByteS x := by unfold cntByteS; omega
def cntByteSS (l : List (List Int)) : Int := cntL cntByteS l
def mkByteSS (l : List (List Int)) (a : Int) : List (List Int) := mkL mkByteS cntByteS l a
theorem cntByteSS_nn0 (l : List (List Int)) : 0 ≤ cntByteSS l := cntL_nn cntByteS cntByteS_nn' l
theorem cntByteSS_bulk : ∀ l : List (List Int), cntByteSS l ≤ (bulkByteSS l : Int)
  | [] => by simp [cntByteSS, cntL, bulkByteSS]
  | x :: xs => by
    have := cntByteSS_bulk xs
    simp only [cntByteSS] at this
    simp only [cntByteSS, cntL, bulkByteSS, cntByteS]
    push_cast
    omega
theorem cntByteSS_nn {l : List (List Int)} (h : okByteSS l) : 0 ≤ cntByteSS l ∧ cntByteSS l ≤ 4194304 := by
  have := cntByteSS_bulk l
  have := cntByteSS_nn0 l
  unfold okByteSS at h
  omega
theorem cntByteSS_take (l : List (List Int)) (i : Nat) : 0 ≤ cntByteSS (l.take i) ∧ cntByteSS (l.take i) ≤ cntByteSS l := ⟨cntByteSS_nn0 _, cntL_take_le cntByteS cntByteS_nn' l i⟩

theorem heldByteSS_ev (l : List (List Int)) (a : Int) (ho : okByteSS l) (h0 : 0 ≤ a) (h1 : a ≤ 1000000000000) : Ev (fun k => laws_heldByteSS.f k (mkByteSS l a) a) (a + cntByteSS l) := by
  have h := okByteSS_len ho
  have hl : (mkByteSS l a).length = l.length := mkL_length _ _ _ _
  have hc := cntByteSS_nn ho
  obtain ⟨K, hk⟩ := evRange0 (σ := Int) l.length (fun k s i => laws_heldByteSS.l0 k (mkByteSS l a) s i) (fun i s => s = a + cntByteSS (l.take i)) (fun _ _ => a + cntByteSS l) a (by simp [cntByteSS, cntL])
    (by
      intro i s hi hs
      subst hs
      have ht := cntByteSS_take l i
      have hr : rd_L1 (mkByteSS l a) (i : Int) = mkByteS (l.getD i []) (a + cntByteSS (l.take i)) := by
        unfold rd_L1
        rw [Int.toNat_natCast]
        exact mkL_getD mkByteS cntByteS [] l a i hi
      obtain ⟨K, e⟩ := heldByteS_ev (l.getD i []) (a + cntByteSS (l.take i)) (okByteSS_at ho i hi) (by omega) (by omega)
      have hs' : cntByteSS (l.take (i + 1)) = cntByteSS (l.take i) + cntByteS (l.getD i []) := cntL_take cntByteS [] l i hi
      have hn := cntByteS_nn' (l.getD i [])
      refine .inl ⟨_, rfl, rfl, K, 1, fun k hk => ?_⟩
      have e1 := e k hk
      simp only at e1
      simp only [laws_heldByteSS.l0, hr, e1, Option.bind_some]
      rw [if_pos (by omega), if_pos (by omega), if_neg (by omega), w64s i (by omega), hs']
      congr 1
      omega)
    (by
      intro s hs
      subst hs
      refine ⟨0, 1, fun k _ => ?_⟩
      simp only [laws_heldByteSS.l0]
      rw [if_neg (by omega), List.take_length])
  exact ⟨K, fun k hk' => hk k hk'⟩

def mkWr (x : S50) (a : Int) : S50 := ⟨a, mkByteS x.f1 (a + 1)⟩
def cntWr (x : S50) : Int := 1 + cntByteS x.f1
theorem cntWr_nn (x : S50) : 0 ≤ cntWr x := by unfold cntWr cntByteS; omega
def cntWrS (l : List S50) : Int := cntL cntWr l
def mkWrS (l : List S50) (a : Int) : List S50 := mkL mkWr cntWr l a
theorem cntWrS_nn0 (l : List S50) : 0 ≤ cntWrS l := cntL_nn cntWr cntWr_nn l
theorem cntWrS_bulk : ∀ l : List S50, cntWrS l ≤ (bulkWrS l : Int)
  | [] => by simp [cntWrS, cntL, bulkWrS]
  | x :: xs => by
    have := cntWrS_bulk xs
    simp only [cntWrS] at this
    simp only [cntWrS, cntL, bulkWrS, cntWr, cntByteS]
    push_cast
    omega
theorem cntWrS_nn {l : List S50} (h : okWrS l) : 0 ≤ cntWrS l ∧ cntWrS l ≤ 4194304 := by
  have := cntWrS_bulk l
  have := cntWrS_nn0 l
  unfold okWrS at h
  omega
theorem cntWrS_take (l : List S50) (i : Nat) : 0 ≤ cntWrS (l.take i) ∧ cntWrS (l.take i) ≤ cntWrS l := ⟨cntWrS_nn0 _, cntL_take_le cntWr cntWr_nn l i⟩

theorem heldWrS_ev (l : List S50) (a : Int) (ho : okWrS l) (h0 : 0 ≤ a) (h1 : a ≤ 1000000000000) : Ev (fun k => laws_heldWrS.f k (mkWrS l a) a) (a + cntWrS l) := by
  have h := okWrS_len ho
  have hl : (mkWrS l a).length = l.length := mkL_length _ _ _ _
  have hc := cntWrS_nn ho
  obtain ⟨K, hk⟩ := evRange0 (σ := Int) l.length (fun k s i => laws_heldWrS.l0 k (mkWrS l a) s i) (fun i s => s = a + cntWrS (l.take i)) (fun _ _ => a + cntWrS l) a (by simp [cntWrS, cntL])
    (by
      intro i s hi hs
      subst hs
      have ht := cntWrS_take l i
      have hr : rd_T50 (mkWrS l a) (i : Int) = mkWr (l.getD i z50) (a + cntWrS (l.take i)) := by
        unfold rd_T50
        rw [Int.toNat_natCast]
        exact mkL_getD mkWr cntWr z50 l a i hi
      obtain ⟨K, e⟩ := heldByteS_ev (l.getD i z50).f1 (a + cntWrS (l.take i) + 1) (okWrS_at ho i hi) (by omega) (by omega)
      have hs' : cntWrS (l.take (i + 1)) = cntWrS (l.take i) + cntWr (l.getD i z50) := cntL_take cntWr z50 l i hi
      have hn : 0 ≤ cntByteS (l.getD i z50).f1 := by unfold cntByteS; omega
      refine .inl ⟨_, rfl, rfl, K, 1, fun k hk => ?_⟩
      have e1 := e k hk
      simp only at e1
      simp only [laws_heldWrS.l0, hr, mkWr]
      rw [if_pos (by omega), if_pos (by omega), if_pos trivial, w64 (x := a + cntWrS (l.take i) + 1) (by omega) (by omega), e1]
      simp only [Option.bind_some]
      rw [if_neg (by omega), w64s i (by omega), hs']
      unfold cntWr
      congr 1
      omega)
    (by
      intro s hs
      subst hs
      refine ⟨0, 1, fun k _ => ?_⟩
      simp only [laws_heldWrS.l0]
      rw [if_neg (by omega), List.take_length])
  exact ⟨K, fun k hk' => hk k hk'⟩

theorem heldDev_ev (l : List (List Int)) (m : List S50) (x : Int) (y : Bool) (a : Int) (ho : okByteSS l) (ho2 : okWrS m) (h0 : 0 ≤ a) (h1 : a ≤ 900000000000) : Ev (fun k => laws_heldDev.f k (mkByteSS l a) (mkWrS m (a + cntByteSS l)) x y a) (a + (cntByteSS l + cntWrS m)) := by
  have hc := cntByteSS_nn ho
  have hc2 := cntWrS_nn ho2
  unfold laws_heldDev.f
  refine Ev.bind (heldByteSS_ev l a ho h0 (by omega)) ?_
  simp only [if_neg (show ¬ a + cntByteSS l < 0 by omega)]
  refine Ev.bind (heldWrS_ev m _ ho2 (by omega) (by omega)) ?_
  simp only [if_neg (show ¬ a + cntByteSS l + cntWrS m < 0 by omega)]
  rw [show a + (cntByteSS l + cntWrS m) = a + cntByteSS l + cntWrS m by omega]
  exact Ev.now _

end Go.Proofs.Ytilhcaofpfeioaa.Pure
