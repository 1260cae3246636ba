/- What the functions that the law reaches answer, as plain functions of numbers and lists; each says its conditions itself. -/
import Derived.Test.YtilhcaofpfeioaaMFnExactReadSecx0
import Derived.Test.YtilhcaofpfeioaaMFnExactReadSecx1
import Derived.Test.YtilhcaofpfeioaaMFnExactReadSecx2
import Derived.Test.YtilhcaofpfeioaaMFnExactReadSecx3
import Derived.Test.YtilhcaofpfeioaaMFnExactReadSecx4
import Derived.Test.YtilhcaofpfeioaaMFnExactReadSecx5
import Derived.Test.YtilhcaofpfeioaaMFnExactReadSecx6
import Derived.Test.YtilhcaofpfeioaaCore
import Derived.Test.YtilhcaofpfeioaaMarks
namespace Go.Proofs.Ytilhcaofpfeioaa.Pure
open Go.RowKit Go.Proofs.Ytilhcaofpfeioaa.PFnExactReadSec Go.Proofs.Ytilhcaofpfeioaa.Core Go.Proofs.YtilhcaofpfeioaaW.PrintWords Go.Proofs.YtilhcaofpfeioaaW.PrintLast Go.Proofs.YtilhcaofpfeioaaW.PrintMore
set_option linter.unusedSimpArgs false
set_option linter.unusedVariables false

def okByteS (l : List Int) : Prop := l.length ≤ 4194304
def cntByteS (l : List Int) : Int := l.length
theorem cntByteS_nn {l : List Int} (h : okByteS l) : 0 ≤ cntByteS l ∧ cntByteS l ≤ 1073741824 := by unfold okByteS at h; unfold cntByteS; omega
def inByteS (l : List Int) : Prop := l.length ≤ 1048576
theorem ok_of_inByteS {l : List Int} (h : inByteS l) : okByteS l := by unfold inByteS at h; unfold okByteS; omega
def sumByteS (l : List Int) : Int := l.length
theorem sumByteS_nn (l : List Int) : 0 ≤ sumByteS l := by unfold sumByteS; omega
theorem in_of_sumByteS {l : List Int} (h : sumByteS l ≤ 1048576) : inByteS l := by unfold sumByteS at h; unfold inByteS; omega

theorem eqByteS_ev (l : List Int) (ho : okByteS l) : Ev (fun k => laws_eqByteS.f k l l) true := by
  have h : l.length ≤ 4194304 := ho
  obtain ⟨K, hk⟩ := evRange0 (σ := Unit) l.length (fun k _ i => laws_eqByteS.l0 k l l i) (fun _ _ => True) (fun _ _ => true) () trivial
    (by
      intro i _ hi _
      refine .inl ⟨(), trivial, rfl, 0, 1, fun k _ => ?_⟩
      simp only [laws_eqByteS.l0]
      rw [if_pos (by omega), if_pos (by omega), if_pos (by omega), if_pos trivial, w64s i (by omega)])
    (by
      intro _ _
      refine ⟨0, 1, fun k _ => ?_⟩
      simp only [laws_eqByteS.l0]
      rw [if_neg (by omega)])
  refine ⟨K, fun k hk' => ?_⟩
  simp only [laws_eqByteS.f]
  rw [if_pos trivial]
  exact hk k hk'

theorem szByteS_f (l : List Int) (a : Int) (hl : l.length ≤ 9223372036854775807) (h0 : 0 ≤ a) (h1 : a ≤ 1048576) : laws_szByteS.f l a = some (if a < sumByteS l then -1 else a - sumByteS l) := by
  unfold laws_szByteS.f sumByteS
  rw [w64 (by omega) (by omega)]
  by_cases h : a < (l.length : Int)
  · rw [if_pos (by omega), if_pos h]
  · rw [if_neg (by omega), if_neg h]
theorem szByteS_big (l : List Int) (a : Int) (hl : l.length ≤ 9223372036854775807) (h0 : 0 ≤ a) (h1 : a ≤ 1048576) (h : a < sumByteS l) : Ev (fun _ => laws_szByteS.f l a) (-1) := evOf fun _ => by rw [szByteS_f l a hl h0 h1, if_pos h]
theorem szByteS_fit (l : List Int) (a : Int) (hl : l.length ≤ 9223372036854775807) (h0 : 0 ≤ a) (h1 : a ≤ 1048576) (h : ¬ a < sumByteS l) : Ev (fun _ => laws_szByteS.f l a) (a - sumByteS l) := evOf fun _ => by rw [szByteS_f l a hl h0 h1, if_neg h]

/-! A slice of them. -/
def convByteSS (l : List (List Int)) : List (List Int) := l.map fun x => x
def sumByteSS : List (List Int) → Int
  | [] => 0
  | x :: xs => 1 + sumByteS x + sumByteSS xs
theorem sumByteSS_nn : ∀ l : List (List Int), (l.length : Int) ≤ sumByteSS l
  | [] => by simp [sumByteSS]
  | x :: xs => by
    have := sumByteSS_nn xs
    have := sumByteS_nn x
    simp only [sumByteSS, List.length_cons]
    omega
theorem sumByteSS_pos (l : List (List Int)) : 0 ≤ sumByteSS l := by have := sumByteSS_nn l; omega
theorem sumByteSS_at : ∀ (l : List (List Int)) (i : Nat), i < l.length → 1 + sumByteS (l.getD i []) + sumByteSS (l.drop (i + 1)) = sumByteSS (l.drop i) := by
  intro l i hi
  rw [drop_getD l i [] hi]
  rfl
theorem sumByteSS_drop : ∀ (l : List (List Int)) (i : Nat), sumByteSS (l.drop i) ≤ sumByteSS l
  | [], i => by simp
  | x :: xs, 0 => by simp
  | x :: xs, i + 1 => by
    have := sumByteSS_drop xs i
    have := sumByteS_nn x
    simp only [List.drop_succ_cons, sumByteSS]
    omega
def inByteSS (l : List (List Int)) : Prop := sumByteSS l ≤ 1048576
theorem in_of_sumByteSS {l : List (List Int)} (h : sumByteSS l ≤ 1048576) : inByteSS l := h
theorem inByteSS_len {l : List (List Int)} (h : inByteSS l) : l.length ≤ 1048576 := by have := sumByteSS_nn l; unfold inByteSS at h; omega
theorem inByteSS_at {l : List (List Int)} (h : inByteSS l) (i : Nat) (hi : i < l.length) : inByteS (l.getD i []) := by
  have h1 := sumByteSS_at l i hi
  have h2 := sumByteSS_drop l i
  have h3 := sumByteSS_nn (l.drop (i + 1))
  unfold inByteSS at h
  exact in_of_sumByteS (by omega)
/-- What the impl's side holds, all in all. -/
def bulkByteSS : List (List Int) → Nat
  | [] => 0
  | x :: xs => 1 + x.length + bulkByteSS xs
def okByteSS (l : List (List Int)) : Prop := bulkByteSS l ≤ 4194304
theorem bulkByteSS_len : ∀ l : List (List Int), l.length ≤ bulkByteSS l
  | [] => by simp [bulkByteSS]
  | x :: xs => by have := bulkByteSS_len xs; simp only [bulkByteSS, List.length_cons]; omega
theorem bulkByteSS_at : ∀ (l : List (List Int)) (i : Nat), i < l.length → (l.getD i []).length ≤ bulkByteSS l
  | x :: xs, 0, _ => by simp only [bulkByteSS, List.getD_cons_zero]; omega
  | x :: xs, i + 1, h => by
    have := bulkByteSS_at xs i (by simpa using h)
    simp only [bulkByteSS, List.getD_cons_succ]; omega
theorem okByteSS_at {l : List (List Int)} (h : okByteSS l) (i : Nat) (hi : i < l.length) : okByteS (l.getD i []) := by
  have h1 := bulkByteSS_at l i hi
  unfold okByteSS at h
  show (l.getD i []).length ≤ 4194304
  omega
theorem okByteSS_len {l : List (List Int)} (h : okByteSS l) : l.length ≤ 4194304 := by have := bulkByteSS_len l; unfold okByteSS at h; omega
theorem bulk_convByteSS : ∀ l : List (List Int), (bulkByteSS (convByteSS l) : Int) = sumByteSS l
  | [] => rfl
  | x :: xs => by
    have h1 := bulk_convByteSS xs
    have h2 : (((x).length : Nat) : Int) = sumByteS x := rfl
    (try simp only at h2)
    simp only [convByteSS] at h1
    simp only [convByteSS, List.map_cons, bulkByteSS, sumByteSS]
    omega
theorem ok_of_inByteSS {l : List (List Int)} (h : inByteSS l) : okByteSS (convByteSS l) := by
  have := bulk_convByteSS l
  unfold inByteSS at h
  unfold okByteSS
  omega

theorem eqByteSS_ev (l : List (List Int)) (ho : okByteSS l) : Ev (fun k => laws_eqByteSS.f k l l) true := by
  have h := okByteSS_len ho
  obtain ⟨K, hk⟩ := evRange0 (σ := Unit) l.length (fun k _ i => laws_eqByteSS.l0 k l l i) (fun _ _ => True) (fun _ _ => true) () trivial
    (by
      intro i _ hi _
      have hr : rd_L1 l (i : Int) = l.getD i [] := by simp [rd_L1]
      obtain ⟨K, e⟩ := eqByteS_ev (l.getD i []) (okByteSS_at ho i hi)
      refine .inl ⟨(), trivial, rfl, K, 1, fun k hk => ?_⟩
      have e1 := e k hk
      simp only at e1
      simp only [laws_eqByteSS.l0, hr, e1, Option.bind_some]
      rw [if_pos (by omega), if_pos (by omega), if_pos (by omega), if_pos trivial, w64s i (by omega)])
    (by
      intro _ _
      refine ⟨0, 1, fun k _ => ?_⟩
      simp only [laws_eqByteSS.l0]
      rw [if_neg (by omega)])
  refine ⟨K, fun k hk' => ?_⟩
  simp only [laws_eqByteSS.f]
  rw [if_pos trivial]
  exact hk k hk'

theorem eqWr_ev (n : Int) (l : List Int) (ho : okByteS l) : Ev (fun k => laws_eqWr.f k n l n l) true := by
  obtain ⟨K, e⟩ := eqByteS_ev l ho
  refine ⟨K, fun k hk => ?_⟩
  have e1 := e k hk
  simp only at e1
  simp only [laws_eqWr.f, e1, Option.bind_some, if_true]

theorem szWr_big (n : Int) (l : List Int) (a : Int) (hl : l.length ≤ 9223372036854775807) (h0 : 0 ≤ a) (h1 : a ≤ 1048576) (h : a < sumByteS l) : Ev (fun _ => laws_szWr.f n l a) (-1) := evOf fun _ => by
  simp only [laws_szWr.f, szByteS_f l a hl h0 h1, if_pos h, Option.bind_some]; rfl
theorem szWr_fit (n : Int) (l : List Int) (a : Int) (hl : l.length ≤ 9223372036854775807) (h0 : 0 ≤ a) (h1 : a ≤ 1048576) (h : ¬ a < sumByteS l) : Ev (fun _ => laws_szWr.f n l a) (a - sumByteS l) := evOf fun _ => by
  simp only [laws_szWr.f, szByteS_f l a hl h0 h1, if_neg h, Option.bind_some]; rw [if_neg (by omega)]

/-! A slice of them. -/
def convWrS (l : List (S81)) : List (S50) := l.map fun x => (⟨x.f0, x.f1⟩ : S50)
def sumWrS : List (S81) → Int
  | [] => 0
  | x :: xs => 1 + sumByteS x.f1 + sumWrS xs
theorem sumWrS_nn : ∀ l : List (S81), (l.length : Int) ≤ sumWrS l
  | [] => by simp [sumWrS]
  | x :: xs => by
    have := sumWrS_nn xs
    have := sumByteS_nn x.f1
    simp only [sumWrS, List.length_cons]
    omega
theorem sumWrS_pos (l : List (S81)) : 0 ≤ sumWrS l := by have := sumWrS_nn l; omega
theorem sumWrS_at : ∀ (l : List (S81)) (i : Nat), i < l.length → 1 + sumByteS (l.getD i z81).f1 + sumWrS (l.drop (i + 1)) = sumWrS (l.drop i) := by
  intro l i hi
  rw [drop_getD l i z81 hi]
  rfl
theorem sumWrS_drop : ∀ (l : List (S81)) (i : Nat), sumWrS (l.drop i) ≤ sumWrS l
  | [], i => by simp
  | x :: xs, 0 => by simp
  | x :: xs, i + 1 => by
    have := sumWrS_drop xs i
    have := sumByteS_nn x.f1
    simp only [List.drop_succ_cons, sumWrS]
    omega
def inWrS (l : List (S81)) : Prop := sumWrS l ≤ 1048576
theorem in_of_sumWrS {l : List (S81)} (h : sumWrS l ≤ 1048576) : inWrS l := h
theorem inWrS_len {l : List (S81)} (h : inWrS l) : l.length ≤ 1048576 := by have := sumWrS_nn l; unfold inWrS at h; omega
theorem inWrS_at {l : List (S81)} (h : inWrS l) (i : Nat) (hi : i < l.length) : inByteS (l.getD i z81).f1 := by
  have h1 := sumWrS_at l i hi
  have h2 := sumWrS_drop l i
  have h3 := sumWrS_nn (l.drop (i + 1))
  unfold inWrS at h
  exact in_of_sumByteS (by omega)
/-- What the impl's side holds, all in all. -/
def bulkWrS : List (S50) → Nat
  | [] => 0
  | x :: xs => 1 + x.f1.length + bulkWrS xs
def okWrS (l : List (S50)) : Prop := bulkWrS l ≤ 4194304
theorem bulkWrS_len : ∀ l : List (S50), l.length ≤ bulkWrS l
  | [] => by simp [bulkWrS]
  | x :: xs => by have := bulkWrS_len xs; simp only [bulkWrS, List.length_cons]; omega
theorem bulkWrS_at : ∀ (l : List (S50)) (i : Nat), i < l.length → (l.getD i z50).f1.length ≤ bulkWrS l
  | x :: xs, 0, _ => by simp only [bulkWrS, List.getD_cons_zero]; omega
  | x :: xs, i + 1, h => by
    have := bulkWrS_at xs i (by simpa using h)
    simp only [bulkWrS, List.getD_cons_succ]; omega
theorem okWrS_at {l : List (S50)} (h : okWrS l) (i : Nat) (hi : i < l.length) : okByteS (l.getD i z50).f1 := by
  have h1 := bulkWrS_at l i hi
  unfold okWrS at h
  show (l.getD i z50).f1.length ≤ 4194304
  omega
theorem okWrS_len {l : List (S50)} (h : okWrS l) : l.length ≤ 4194304 := by have := bulkWrS_len l; unfold okWrS at h; omega
theorem bulk_convWrS : ∀ l : List (S81), (bulkWrS (convWrS l) : Int) = sumWrS l
  | [] => rfl
  | x :: xs => by
    have h1 := bulk_convWrS xs
    have h2 : ((((⟨x.f0, x.f1⟩ : S50)).f1.length : Nat) : Int) = sumByteS x.f1 := rfl
    (try simp only at h2)
    simp only [convWrS] at h1
    simp only [convWrS, List.map_cons, bulkWrS, sumWrS]
    omega
theorem ok_of_inWrS {l : List (S81)} (h : inWrS l) : okWrS (convWrS l) := by
  have := bulk_convWrS l
  unfold inWrS at h
  unfold okWrS
  omega

theorem eqWrS_ev (l : List (S50)) (ho : okWrS l) : Ev (fun k => laws_eqWrS.f k l l) true := by
  have h := okWrS_len ho
  obtain ⟨K, hk⟩ := evRange0 (σ := Unit) l.length (fun k _ i => laws_eqWrS.l0 k l l i) (fun _ _ => True) (fun _ _ => true) () trivial
    (by
      intro i _ hi _
      have hr : rd_T50 l (i : Int) = l.getD i z50 := by simp [rd_T50]
      obtain ⟨K, e⟩ := eqWr_ev (l.getD i z50).f0 (l.getD i z50).f1 (okWrS_at ho i hi)
      refine .inl ⟨(), trivial, rfl, K, 1, fun k hk => ?_⟩
      have e1 := e k hk
      simp only at e1
      simp only [laws_eqWrS.l0, hr, e1, Option.bind_some]
      rw [if_pos (by omega), if_pos (by omega), if_pos (by omega), if_pos trivial, w64s i (by omega)])
    (by
      intro _ _
      refine ⟨0, 1, fun k _ => ?_⟩
      simp only [laws_eqWrS.l0]
      rw [if_neg (by omega)])
  refine ⟨K, fun k hk' => ?_⟩
  simp only [laws_eqWrS.f]
  rw [if_pos trivial]
  exact hk k hk'

theorem eqDev_ev (l : List (List Int)) (n : List S50) (f : Int) (d : Bool) (h1 : okByteSS l) (h2 : okWrS n) : Ev (fun k => laws_eqDev.f k l n f d l n f d) true := by
  obtain ⟨K, e⟩ := eqByteSS_ev l h1
  obtain ⟨K2, e2⟩ := eqWrS_ev n h2
  refine ⟨K + K2, fun k hk => ?_⟩
  have a1 := e k (by omega)
  have a2 := e2 k (by omega)
  simp only at a1 a2
  simp only [laws_eqDev.f, a1, a2, Option.bind_some, if_true, bne_self_eq_false, Bool.false_eq_true, if_false]

def mkByteS (l : List Int) (a : Int) : List Int := (List.range l.length).map fun (i : Nat) => (a + (i : Int)) % 256
theorem mkByteS_length (l : List Int) (a : Int) : (mkByteS l a).length = l.length := by simp [mkByteS]
theorem markByteS_ev (l : List Int) (a : Int) (ho : okByteS l) (h0 : 0 ≤ a) (h1 : a ≤ 1099511627776) : Ev (fun k => laws_markByteS.f k l a) (a + cntByteS l, mkByteS l a) := by
  have h : l.length ≤ 4194304 := ho
  obtain ⟨K, hk⟩ := evRange0 (σ := List Int × Int) l.length (fun k s i => laws_markByteS.l0 k s.1 s.2 i) (fun i s => s = (fill (fun i => (a + (i : Int)) % 256) l i, a + i)) (fun _ _ => (a + cntByteS l, mkByteS l a)) (l, a) (by simp [fill_zero])
    (by
      intro i s hi hs
      subst hs
      refine .inl ⟨_, rfl, rfl, 0, 1, fun k _ => ?_⟩
      have hl := fill_length (fun i => (a + (i : Int)) % 256) l i (by omega)
      simp only [laws_markByteS.l0]
      rw [if_pos (by omega), if_pos (by omega), w64 (x := a + (i : Int) + 1) (by omega) (by omega), w64s i (by omega), Int.toNat_natCast, fill_set _ l i hi rfl]
      congr 1
      push_cast
      omega)
    (by
      intro s hs
      subst hs
      refine ⟨0, 1, fun k _ => ?_⟩
      have hl := fill_length (fun i => (a + (i : Int)) % 256) l l.length (by omega)
      simp only [laws_markByteS.l0]
      rw [if_neg (by omega), fill_all]
      rfl)
  exact ⟨K, fun k hk' => hk k hk'⟩

def goodByteSS (l : List (List Int)) : Prop := l.length ≤ 9223372036854775807 ∧ ∀ x ∈ l, x.length ≤ 9223372036854775807
theorem szByteSS_l0 (l : List (List Int)) (hg : goodByteSS l) : ∀ (d i : Nat) (s : Int), l.length - i = d → i ≤ l.length → 0 ≤ s → s ≤ 1048576 → l.length ≤ 1048576 → Ev (fun k => laws_szByteSS.l0 k l s (i : Int)) (if s < sumByteSS (l.drop i) - ((l.length : Int) - i) then -1 else s - (sumByteSS (l.drop i) - ((l.length : Int) - i))) := by
  intro d
  induction d with
  | zero =>
    intro i s hd hi h0 h1 hl
    obtain rfl : i = l.length := by omega
    refine evSucc ⟨0, 1, fun k _ => ?_⟩
    simp only [laws_szByteSS.l0]
    rw [if_neg (by omega), List.drop_length]
    rw [show sumByteSS [] = 0 from rfl, if_neg (by omega)]
    congr 1; omega
  | succ d ih =>
    intro i s hd hi h0 h1 hl
    have hlt : i < l.length := by omega
    have hs := sumByteSS_at l i hlt
    have hn := sumByteSS_nn (l.drop (i + 1))
    rw [List.length_drop] at hn
    have hr : rd_L1 l (i : Int) = l.getD i [] := by simp [rd_L1]
    have hgx := hg.2 _ (getD_mem l i [] hlt)
    generalize l.getD i [] = y at *
    have hy := sumByteS_nn y
    by_cases c : s < sumByteS y
    · obtain ⟨K, e⟩ := szByteS_big y s hgx h0 h1 c
      refine evSucc ⟨K, 1, fun k hk => ?_⟩
      have e1 := e k hk
      simp only at e1
      simp only [laws_szByteSS.l0, hr, e1, Option.bind_some]
      rw [if_pos (by omega), if_pos (by omega), if_pos (by decide), if_pos (by omega)]
    · obtain ⟨K, e⟩ := szByteS_fit y s hgx h0 h1 c
      obtain ⟨K2, e2⟩ := ih (i + 1) (s - sumByteS y) (by omega) (by omega) (by omega) (by omega) hl
      refine evSucc ⟨K + K2, 1, fun k hk => ?_⟩
      have e1 := e k (by omega)
      have e3 := e2 k (by omega)
      simp only at e1 e3
      simp only [laws_szByteSS.l0, hr, e1, Option.bind_some]
      rw [if_pos (by omega), if_pos (by omega), if_neg (by omega), w64s i (by omega), e3]
      have hc : ((i + 1 : Nat) : Int) = (i : Int) + 1 := by omega
      rw [hc]
      by_cases c2 : s - sumByteS y < sumByteSS (l.drop (i + 1)) - ((l.length : Int) - ((i : Int) + 1))
      · rw [if_pos c2, if_pos (by omega)]
      · rw [if_neg c2, if_neg (by omega)]; congr 1; omega
theorem szByteSS_big (l : List (List Int)) (a : Int) (hg : goodByteSS l) (h0 : 0 ≤ a) (h1 : a ≤ 1048576) (h : a < sumByteSS l) : Ev (fun k => laws_szByteSS.f k l a) (-1) := by
  have hn := hg.1
  by_cases c : a < l.length
  · refine evOf fun k => ?_
    simp only [laws_szByteSS.f]
    rw [w64 (by omega) (by omega), if_pos (by omega)]
  · obtain ⟨K, e⟩ := szByteSS_l0 l hg _ 0 (a - l.length) rfl (Nat.zero_le _) (by omega) (by omega) (by omega)
    refine ⟨K, fun k hk => ?_⟩
    have e1 := e k hk
    simp only [laws_szByteSS.f]
    rw [w64 (by omega) (by omega), if_neg (by omega)]
    simp only [List.drop_zero, Int.natCast_zero] at e1
    rw [if_pos (by omega)] at e1
    exact e1
theorem szByteSS_fit (l : List (List Int)) (a : Int) (hg : goodByteSS l) (h0 : 0 ≤ a) (h1 : a ≤ 1048576) (h : ¬ a < sumByteSS l) : Ev (fun k => laws_szByteSS.f k l a) (a - sumByteSS l) := by
  have hn := sumByteSS_nn l
  obtain ⟨K, e⟩ := szByteSS_l0 l hg _ 0 (a - l.length) rfl (Nat.zero_le _) (by omega) (by omega) (by omega)
  refine ⟨K, fun k hk => ?_⟩
  have e1 := e k hk
  simp only [laws_szByteSS.f]
  rw [w64 (by omega) (by omega), if_neg (by omega)]
  simp only [List.drop_zero, Int.natCast_zero] at e1
  rw [if_neg (by omega)] at e1
  rw [show a - sumByteSS l = a - ↑l.length - (sumByteSS l - (↑l.length - 0)) by omega]
  exact e1

def goodWrS (l : List (S81)) : Prop := l.length ≤ 9223372036854775807 ∧ ∀ x ∈ l, x.f1.length ≤ 9223372036854775807
theorem szWrS_l0 (l : List (S81)) (hg : goodWrS l) : ∀ (d i : Nat) (s : Int), l.length - i = d → i ≤ l.length → 0 ≤ s → s ≤ 1048576 → l.length ≤ 1048576 → Ev (fun k => laws_szWrS.l0 k l s (i : Int)) (if s < sumWrS (l.drop i) - ((l.length : Int) - i) then -1 else s - (sumWrS (l.drop i) - ((l.length : Int) - i))) := by
  intro d
  induction d with
  | zero =>
    intro i s hd hi h0 h1 hl
    obtain rfl : i = l.length := by omega
    refine evSucc ⟨0, 1, fun k _ => ?_⟩
    simp only [laws_szWrS.l0]
    rw [if_neg (by omega), List.drop_length]
    rw [show sumWrS [] = 0 from rfl, if_neg (by omega)]
    congr 1; omega
  | succ d ih =>
    intro i s hd hi h0 h1 hl
    have hlt : i < l.length := by omega
    have hs := sumWrS_at l i hlt
    have hn := sumWrS_nn (l.drop (i + 1))
    rw [List.length_drop] at hn
    have hr : rd_T81 l (i : Int) = l.getD i z81 := by simp [rd_T81]
    have hgx := hg.2 _ (getD_mem l i z81 hlt)
    generalize l.getD i z81 = y at *
    have hy := sumByteS_nn y.f1
    by_cases c : s < sumByteS y.f1
    · obtain ⟨K, e⟩ := szWr_big y.f0 y.f1 s hgx h0 h1 c
      refine evSucc ⟨K, 1, fun k hk => ?_⟩
      have e1 := e k hk
      simp only at e1
      simp only [laws_szWrS.l0, hr, e1, Option.bind_some]
      rw [if_pos (by omega), if_pos (by omega), if_pos (by decide), if_pos (by omega)]
    · obtain ⟨K, e⟩ := szWr_fit y.f0 y.f1 s hgx h0 h1 c
      obtain ⟨K2, e2⟩ := ih (i + 1) (s - sumByteS y.f1) (by omega) (by omega) (by omega) (by omega) hl
      refine evSucc ⟨K + K2, 1, fun k hk => ?_⟩
      have e1 := e k (by omega)
      have e3 := e2 k (by omega)
      simp only at e1 e3
      simp only [laws_szWrS.l0, hr, e1, Option.bind_some]
      rw [if_pos (by omega), if_pos (by omega), if_neg (by omega), w64s i (by omega), e3]
      have hc : ((i + 1 : Nat) : Int) = (i : Int) + 1 := by omega
      rw [hc]
      by_cases c2 : s - sumByteS y.f1 < sumWrS (l.drop (i + 1)) - ((l.length : Int) - ((i : Int) + 1))
      · rw [if_pos c2, if_pos (by omega)]
      · rw [if_neg c2, if_neg (by omega)]; congr 1; omega
theorem szWrS_big (l : List (S81)) (a : Int) (hg : goodWrS l) (h0 : 0 ≤ a) (h1 : a ≤ 1048576) (h : a < sumWrS l) : Ev (fun k => laws_szWrS.f k l a) (-1) := by
  have hn := hg.1
  by_cases c : a < l.length
  · refine evOf fun k => ?_
    simp only [laws_szWrS.f]
    rw [w64 (by omega) (by omega), if_pos (by omega)]
  · obtain ⟨K, e⟩ := szWrS_l0 l hg _ 0 (a - l.length) rfl (Nat.zero_le _) (by omega) (by omega) (by omega)
    refine ⟨K, fun k hk => ?_⟩
    have e1 := e k hk
    simp only [laws_szWrS.f]
    rw [w64 (by omega) (by omega), if_neg (by omega)]
    simp only [List.drop_zero, Int.natCast_zero] at e1
    rw [if_pos (by omega)] at e1
    exact e1
theorem szWrS_fit (l : List (S81)) (a : Int) (hg : goodWrS l) (h0 : 0 ≤ a) (h1 : a ≤ 1048576) (h : ¬ a < sumWrS l) : Ev (fun k => laws_szWrS.f k l a) (a - sumWrS l) := by
  have hn := sumWrS_nn l
  obtain ⟨K, e⟩ := szWrS_l0 l hg _ 0 (a - l.length) rfl (Nat.zero_le _) (by omega) (by omega) (by omega)
  refine ⟨K, fun k hk => ?_⟩
  have e1 := e k hk
  simp only [laws_szWrS.f]
  rw [w64 (by omega) (by omega), if_neg (by omega)]
  simp only [List.drop_zero, Int.natCast_zero] at e1
  rw [if_neg (by omega)] at e1
  rw [show a - sumWrS l = a - ↑l.length - (sumWrS l - (↑l.length - 0)) by omega]
  exact e1

def sumDev (l : List (List Int)) (n : List S81) : Int := sumByteSS l + sumWrS n
theorem szDev_big (l : List (List Int)) (n : List S81) (f : Int) (d : Bool) (a : Int) (hl : goodByteSS l) (hg : goodWrS n) (h0 : 0 ≤ a) (h1 : a ≤ 1048576) (h : a < sumDev l n) : Ev (fun k => laws_szDev.f k l n f d a) (-1) := by
  have u := sumByteSS_pos l
  unfold sumDev at h
  by_cases c : a < sumByteSS l
  · obtain ⟨K, e⟩ := szByteSS_big l a hl h0 h1 c
    refine ⟨K, fun k hk => ?_⟩
    have e1 := e k hk
    simp only at e1
    simp only [laws_szDev.f, e1, Option.bind_some]
    rfl
  · obtain ⟨K0, e0⟩ := szByteSS_fit l a hl h0 h1 c
    obtain ⟨K, e⟩ := szWrS_big n (a - sumByteSS l) hg (by omega) (by omega) (by omega)
    refine ⟨K + K0, fun k hk => ?_⟩
    have e1 := e k (by omega)
    have e2 := e0 k (by omega)
    simp only at e1 e2
    simp only [laws_szDev.f, e2, Option.bind_some, e1]
    rw [if_neg (by omega)]
    rfl
theorem szDev_fit (l : List (List Int)) (n : List S81) (f : Int) (d : Bool) (a : Int) (hl : goodByteSS l) (hg : goodWrS n) (h0 : 0 ≤ a) (h1 : a ≤ 1048576) (h : ¬ a < sumDev l n) : Ev (fun k => laws_szDev.f k l n f d a) (a - sumDev l n) := by
  have u := sumByteSS_pos l
  have u2 := sumWrS_pos n
  unfold sumDev at h
  obtain ⟨K0, e0⟩ := szByteSS_fit l a hl h0 h1 (by omega)
  obtain ⟨K, e⟩ := szWrS_fit n (a - sumByteSS l) hg (by omega) (by omega) (by omega)
  refine ⟨K + K0, fun k hk => ?_⟩
  have e1 := e k (by omega)
  have e2 := e0 k (by omega)
  simp only at e1 e2
  simp only [laws_szDev.f, e2, Option.bind_some, e1]
  rw [if_neg (by omega), if_neg (by omega)]
  unfold sumDev
  congr 1
  omega

theorem toByteS_ev (l : List Int) (hi : inByteS l) : Ev (fun k => laws_toByteS.f k l) l := by
  have h : l.length ≤ 1048576 := hi
  have hl : ∀ i, i ≤ l.length → (fill (fun i => l.getD i 0) (List.replicate l.length (0 : Int)) i).length = l.length := fun i hi => by rw [fill_length _ _ _ (by simpa using hi)]; simp
  obtain ⟨K, hk⟩ := evRange0 (σ := List Int) l.length (fun k s i => laws_toByteS.l0 k l s i) (fun i s => s = fill (fun i => l.getD i 0) (List.replicate l.length (0 : Int)) i) (fun _ _ => l) (List.replicate l.length (0 : Int)) (fill_zero _ _).symm
    (by
      intro i s hi hs
      subst hs
      refine .inl ⟨_, rfl, rfl, 0, 1, fun k _ => ?_⟩
      have h1 := hl i (by omega)
      simp only [laws_toByteS.l0]
      rw [if_pos (by omega), if_pos (by omega), if_pos (by omega), w64s i (by omega), Int.toNat_natCast, fill_set _ _ _ (by simpa using hi) (rd_nat l i)])
    (by
      intro s hs
      subst hs
      refine ⟨0, 1, fun k _ => ?_⟩
      simp only [laws_toByteS.l0]
      rw [if_neg (by omega)]
      have := fill_all (fun i => l.getD i 0) (List.replicate l.length (0 : Int))
      rw [List.length_replicate] at this
      rw [this, range_id])
  refine ⟨K, fun k hk' => ?_⟩
  simp only [laws_toByteS.f]
  rw [if_pos (by omega), if_pos (by omega)]
  have e := hk k hk'
  simpa using e

theorem toByteSS_ev (l : List (List Int)) (hin : inByteSS l) : Ev (fun k => laws_toByteSS.f k l) (convByteSS l) := by
  have h := inByteSS_len hin
  have hl : ∀ i, i ≤ l.length → (fill (fun i => (l.getD i [])) (List.replicate l.length ([] : List Int)) i).length = l.length := fun i hi => by rw [fill_length _ _ _ (by simpa using hi)]; simp
  obtain ⟨K, hk⟩ := evRange0 (σ := List (List Int)) l.length (fun k s i => laws_toByteSS.l0 k l s i) (fun i s => s = fill (fun i => (l.getD i [])) (List.replicate l.length ([] : List Int)) i) (fun _ _ => convByteSS l) (List.replicate l.length ([] : List Int)) (fill_zero _ _).symm
    (by
      intro i s hi hs
      subst hs
      have h1 := hl i (by omega)
      have hr : rd_L1 l (i : Int) = l.getD i [] := by simp [rd_L1]
      obtain ⟨K, e⟩ := toByteS_ev (l.getD i []) (inByteSS_at hin i hi)
      refine .inl ⟨_, rfl, rfl, K, 1, fun k hk => ?_⟩
      have e1 := e k hk
      simp only at e1
      simp only [laws_toByteSS.l0, hr, e1, Option.bind_some]
      rw [if_pos (by omega), if_pos (by omega), if_pos (by omega), w64s i (by omega), Int.toNat_natCast, fill_set _ _ _ (by simpa using hi) rfl])
    (by
      intro s hs
      subst hs
      refine ⟨0, 1, fun k _ => ?_⟩
      simp only [laws_toByteSS.l0]
      rw [if_neg (by omega)]
      have := fill_all (fun i => (l.getD i [])) (List.replicate l.length ([] : List Int))
      rw [List.length_replicate] at this
      rw [this, range_map (fun x => x) l []]
      rfl)
  refine ⟨K, fun k hk' => ?_⟩
  simp only [laws_toByteSS.f]
  rw [if_pos (by omega), if_pos (by omega)]
  have e := hk k hk'
  simp only [Int.toNat_natCast]
  exact e

theorem toWr_ev (n : Int) (l : List Int) (hi : inByteS l) : Ev (fun k => laws_toWr.f k n l) (n, l) := by
  obtain ⟨K, e⟩ := toByteS_ev l hi
  refine ⟨K, fun k hk => ?_⟩
  have e1 := e k hk
  simp only at e1
  simp only [laws_toWr.f, e1, Option.bind_some]

theorem toWrS_ev (l : List (S81)) (hin : inWrS l) : Ev (fun k => laws_toWrS.f k l) (convWrS l) := by
  have h := inWrS_len hin
  have hl : ∀ i, i ≤ l.length → (fill (fun i => (⟨(l.getD i z81).f0, (l.getD i z81).f1⟩ : S50)) (List.replicate l.length (z50 : S50)) i).length = l.length := fun i hi => by rw [fill_length _ _ _ (by simpa using hi)]; simp
  obtain ⟨K, hk⟩ := evRange0 (σ := List (S50)) l.length (fun k s i => laws_toWrS.l0 k l s i) (fun i s => s = fill (fun i => (⟨(l.getD i z81).f0, (l.getD i z81).f1⟩ : S50)) (List.replicate l.length (z50 : S50)) i) (fun _ _ => convWrS l) (List.replicate l.length (z50 : S50)) (fill_zero _ _).symm
    (by
      intro i s hi hs
      subst hs
      have h1 := hl i (by omega)
      have hr : rd_T81 l (i : Int) = l.getD i z81 := by simp [rd_T81]
      obtain ⟨K, e⟩ := toWr_ev (l.getD i z81).f0 (l.getD i z81).f1 (inWrS_at hin i hi)
      refine .inl ⟨_, rfl, rfl, K, 1, fun k hk => ?_⟩
      have e1 := e k hk
      simp only at e1
      simp only [laws_toWrS.l0, hr, e1, Option.bind_some]
      rw [if_pos (by omega), if_pos (by omega), if_pos (by omega), w64s i (by omega), Int.toNat_natCast, fill_set _ _ _ (by simpa using hi) rfl])
    (by
      intro s hs
      subst hs
      refine ⟨0, 1, fun k _ => ?_⟩
      simp only [laws_toWrS.l0]
      rw [if_neg (by omega)]
      have := fill_all (fun i => (⟨(l.getD i z81).f0, (l.getD i z81).f1⟩ : S50)) (List.replicate l.length (z50 : S50))
      rw [List.length_replicate] at this
      rw [this, range_map (fun x => (⟨x.f0, x.f1⟩ : S50)) l z81]
      rfl)
  refine ⟨K, fun k hk' => ?_⟩
  simp only [laws_toWrS.f]
  rw [if_pos (by omega), if_pos (by omega)]
  have e := hk k hk'
  simp only [Int.toNat_natCast]
  exact e

theorem toDev_ev (l : List (List Int)) (n : List S81) (f : Int) (d : Bool) (h1 : inByteSS l) (h2 : inWrS n) : Ev (fun k => laws_toDev.f k l n f d) (convByteSS l, convWrS n, f, d) := by
  obtain ⟨K, e⟩ := toByteSS_ev l h1
  obtain ⟨K2, e2⟩ := toWrS_ev n h2
  refine ⟨K + K2, fun k hk => ?_⟩
  have a1 := e k (by omega)
  have a2 := e2 k (by omega)
  simp only at a1 a2
  simp only [laws_toDev.f, a1, a2, Option.bind_some]

theorem spec_l1In_f (a b c : Int) : spec_l1In.f a b c = some (decide (b ≤ a ∧ a ≤ c)) := by
  unfold spec_l1In.f
  by_cases h : a ≥ b
  · rw [if_pos h]; congr 1; rw [Bool.eq_iff_iff]; simp; omega
  · rw [if_neg h]; congr 1; rw [Bool.eq_iff_iff]; simp; omega

def wrOkB (n : Nat) (x : S50) : Bool := decide (0 ≤ x.f0 ∧ x.f0 ≤ (n : Int) - 1) && decide ((x.f1.length : Int) ≤ 80)
def devOkB (s : List (List Int)) (c : List S50) (f : Int) : Bool :=
  allFrom (fun i => decide (((s.getD i []).length : Int) ≤ 80)) s.length 0 && (allFrom (fun i => wrOkB s.length (c.getD i z50)) c.length 0 && (decide (1 ≤ (s.length : Int) ∧ (s.length : Int) ≤ 60) && (decide ((c.length : Int) ≤ 60) && decide (-1 ≤ f ∧ f ≤ 1000))))

theorem spec_DevOk_ev (s : List (List Int)) (c : List S50) (f : Int) (d : Bool) (h1 : okByteSS s) (h2 : okWrS c) : Ev (fun k => spec_DevOk.f k s c f d) (devOkB s c f) := by
  have hs := okByteSS_len h1
  have hc := okWrS_len h2
  obtain ⟨K0, e0⟩ := evAll c.length (fun k i => spec_DevOk.l1 k i s c f d) (fun i => wrOkB s.length (c.getD i z50)) (decide (1 ≤ (s.length : Int) ∧ (s.length : Int) ≤ 60) && (decide ((c.length : Int) ≤ 60) && decide (-1 ≤ f ∧ f ≤ 1000)))
    (by
      intro i hi
      have hr : rd_T50 c (i : Int) = c.getD i z50 := by simp [rd_T50]
      refine ⟨0, 1, fun k _ => ?_⟩
      simp only [spec_DevOk.l1, hr, spec_l1In_f, Option.bind_some, wrOkB]
      rw [if_pos (by omega), if_pos (by omega), w64 (x := (s.length : Int) - 1) (by omega) (by omega), w64s i (by omega)]
      generalize c.getD i z50 = y at *
      by_cases q0 : 0 ≤ y.f0 ∧ y.f0 ≤ (s.length : Int) - 1
      · simp only [decide_eq_true q0, Bool.true_and, if_true, decide_eq_true_eq]
        by_cases q : (y.f1.length : Int) > 80
        · rw [if_pos q, if_neg (by omega)]
        · rw [if_neg q, if_pos (by omega)]
      · simp only [decide_eq_false q0, Bool.false_and, Bool.false_eq_true, if_false])
    (by
      refine ⟨0, 1, fun k _ => ?_⟩
      simp only [spec_DevOk.l1, spec_l1In_f, Option.bind_some]
      rw [if_neg (by omega)]
      cases decide (1 ≤ (s.length : Int) ∧ (s.length : Int) ≤ 60) with
      | false => simp only [Bool.false_and, Bool.false_eq_true, if_false]
      | true =>
        simp only [Bool.true_and, if_true]
        by_cases q : (c.length : Int) ≤ 60
        · rw [if_pos q, decide_eq_true q, Bool.true_and]
        · rw [if_neg q, decide_eq_false q, Bool.false_and]) 0 (Nat.zero_le _)
  have := evAll s.length (fun k i => spec_DevOk.l0 k i s c f d) (fun i => decide (((s.getD i []).length : Int) ≤ 80)) (allFrom (fun i => wrOkB s.length (c.getD i z50)) c.length 0 && (decide (1 ≤ (s.length : Int) ∧ (s.length : Int) ≤ 60) && (decide ((c.length : Int) ≤ 60) && decide (-1 ≤ f ∧ f ≤ 1000))))
    (by
      intro i hi
      have hr : rd_L1 s (i : Int) = s.getD i [] := by simp [rd_L1]
      refine ⟨0, 1, fun k _ => ?_⟩
      simp only [spec_DevOk.l0, hr, decide_eq_true_eq]
      rw [if_pos (by omega), if_pos (by omega), w64s i (by omega)]
      generalize s.getD i [] = y at *
      by_cases q : (y.length : Int) > 80
      · rw [if_pos q, if_neg (by omega)]
      · rw [if_neg q, if_pos (by omega)])
    (by
      refine ⟨K0, 1, fun k hk => ?_⟩
      have e1 := e0 k hk
      simp only [spec_DevOk.l0]
      rw [if_neg (by omega)]
      exact e1) 0 (Nat.zero_le _)
  obtain ⟨K, hk⟩ := this
  exact ⟨K, fun k hk' => hk k hk'⟩

/-! The sector that is read: the last entry of the first i that names it, or what was there. -/
def pickB (c : List S50) (n : Int) (b : List Int) : Nat → List Int
  | 0 => b
  | i + 1 => if (c.getD i z50).f0 = n then (c.getD i z50).f1 else pickB c n b i
theorem pickB_len (c : List S50) (n : Int) (b : List Int) (hc : okWrS c) (hb : b.length ≤ 4194304) : ∀ i, i ≤ c.length → (pickB c n b i).length ≤ 4194304
  | 0, _ => hb
  | i + 1, h => by
    unfold pickB
    split
    · exact okWrS_at hc i (by omega)
    · exact pickB_len c n b hc hb i (by omega)
def readSec (s : List (List Int)) (c : List S50) (f : Int) (n : Int) : List Int := if devOkB s c f = true ∧ 0 ≤ n ∧ n ≤ (s.length : Int) - 1 then pickB c n (s.getD n.toNat []) c.length else []
theorem getD_len {s : List (List Int)} (h : okByteSS s) (i : Nat) : (s.getD i []).length ≤ 4194304 := by
  by_cases c : i < s.length
  · exact okByteSS_at h i c
  · rw [List.getD_eq_getElem?_getD, List.getElem?_eq_none (by omega)]; simp
theorem readSec_len {s : List (List Int)} {c : List S50} (f n : Int) (hs : okByteSS s) (hc : okWrS c) : okByteS (readSec s c f n) := by
  unfold readSec
  split
  · exact pickB_len c n _ hc (getD_len hs _) _ (Nat.le_refl _)
  · simp [okByteS]

theorem spec_ReadSec_l0 (s : List (List Int)) (c : List S50) (f n : Int) (d : Bool) (b : List Int) (hc : okWrS c) (hb : b.length ≤ 4194304) : Ev (fun k => spec_ReadSec.l0 k n b 0 s c f d) (pickB c n b c.length) := by
  have h := okWrS_len hc
  obtain ⟨K, hk⟩ := evRange0 (σ := List Int) c.length (fun k x i => spec_ReadSec.l0 k n x i s c f d) (fun i x => x = pickB c n b i) (fun _ _ => pickB c n b c.length) b rfl
    (by
      intro i x hi hx
      subst hx
      have hr : rd_T50 c (i : Int) = c.getD i z50 := by simp [rd_T50]
      refine .inl ⟨_, rfl, rfl, 0, 1, fun k _ => ?_⟩
      simp only [spec_ReadSec.l0, hr]
      rw [if_pos (by omega), if_pos (by omega), w64s i (by omega)]
      conv => rhs; rw [pickB]
      by_cases e : (c.getD i z50).f0 = n
      · rw [if_pos e, if_pos e]
      · rw [if_neg e, if_neg e])
    (by
      intro x hx
      subst hx
      have hl := pickB_len c n b hc hb c.length (Nat.le_refl _)
      refine ⟨0, 1, fun k _ => ?_⟩
      simp only [spec_ReadSec.l0, Option.bind_some, List.nil_append, List.length_nil, Nat.zero_add]
      rw [if_neg (by omega), if_pos (by omega)])
  exact ⟨K, fun k hk' => hk k hk'⟩
theorem spec_ReadSec_ev (s : List (List Int)) (c : List S50) (f : Int) (d : Bool) (n : Int) (hs : okByteSS s) (hc : okWrS c) : Ev (fun k => spec_ReadSec.f k s c f d n) (readSec s c f n) := by
  have h := okByteSS_len hs
  obtain ⟨K, e⟩ := spec_DevOk_ev s c f d hs hc
  obtain ⟨K2, e2⟩ := spec_ReadSec_l0 s c f n d (s.getD n.toNat []) hc (getD_len hs _)
  refine ⟨K + K2 + 1, fun k hk => ?_⟩
  obtain ⟨k, rfl⟩ : ∃ m, k = m + 1 := ⟨k - 1, by omega⟩
  have a1 := e (k + 1) (by omega)
  have a2 := e2 k (by omega)
  simp only at a1 a2
  simp only [spec_ReadSec.f, a1, Option.bind_some, readSec]
  rw [w64 (x := (s.length : Int) - 1) (by omega) (by omega)]
  cases hq : devOkB s c f with
  | false => simp [spec_ReadSec.j0]
  | true =>
    simp only [if_true, spec_l1In_f, Option.bind_some, spec_ReadSec.j0, true_and]
    by_cases hn : 0 ≤ n ∧ n ≤ (s.length : Int) - 1
    · have hr : rd_L1 s n = s.getD n.toNat [] := by simp [rd_L1]
      rw [decide_eq_true hn, if_pos hn, if_neg (by simp), if_pos hn.1, if_pos (by omega), hr]
      exact a2
    · rw [decide_eq_false hn, if_neg hn, if_pos (by simp)]

theorem impl_within_f (a b c : Int) : impl_within.f a b c = some (decide (b ≤ a ∧ a ≤ c)) := by
  unfold impl_within.f
  by_cases h : a ≥ b
  · rw [if_pos h]; congr 1; rw [Bool.eq_iff_iff]; simp; omega
  · rw [if_neg h]; congr 1; rw [Bool.eq_iff_iff]; simp; omega

theorem impl_DevOk_ev (s : List (List Int)) (c : List S50) (f : Int) (d : Bool) (h1 : okByteSS s) (h2 : okWrS c) : Ev (fun k => impl_DevOk.f k s c f d) (devOkB s c f) := by
  have hs := okByteSS_len h1
  have hc := okWrS_len h2
  obtain ⟨K0, e0⟩ := evAll c.length (fun k i => impl_DevOk.l1 k c (c.length : Int) i s c f d) (fun i => wrOkB s.length (c.getD i z50)) true
    (by
      intro i hi
      have hr : rd_T50 c (i : Int) = c.getD i z50 := by simp [rd_T50]
      refine ⟨0, 1, fun k _ => ?_⟩
      simp only [impl_DevOk.l1, hr, impl_within_f, Option.bind_some, wrOkB]
      rw [if_pos (by omega), if_pos (by omega), if_pos (by omega), w64 (x := (s.length : Int) - 1) (by omega) (by omega), w64s i (by omega)]
      generalize c.getD i z50 = y at *
      by_cases q0 : 0 ≤ y.f0 ∧ y.f0 ≤ (s.length : Int) - 1
      · simp only [decide_eq_true q0, Bool.true_and, if_true, decide_eq_true_eq]
        by_cases q : (y.f1.length : Int) > 80
        · rw [if_pos q, if_neg (by omega)]
        · rw [if_neg q, if_pos (by omega)]
      · simp only [decide_eq_false q0, Bool.false_and, Bool.false_eq_true, if_false])
    (by
      refine ⟨0, 1, fun k _ => ?_⟩
      simp only [impl_DevOk.l1]
      rw [if_neg (by omega)]) 0 (Nat.zero_le _)
  obtain ⟨K, e⟩ := evAll s.length (fun k i => impl_DevOk.l0 k s (s.length : Int) i s c f d) (fun i => decide (((s.getD i []).length : Int) ≤ 80)) (allFrom (fun i => wrOkB s.length (c.getD i z50)) c.length 0)
    (by
      intro i hi
      have hr : rd_L1 s (i : Int) = s.getD i [] := by simp [rd_L1]
      refine ⟨0, 1, fun k _ => ?_⟩
      simp only [impl_DevOk.l0, hr, decide_eq_true_eq]
      rw [if_pos (by omega), if_pos (by omega), if_pos (by omega), w64s i (by omega)]
      generalize s.getD i [] = y at *
      by_cases q : (y.length : Int) > 80
      · rw [if_pos q, if_neg (by omega)]
      · rw [if_neg q, if_pos (by omega)])
    (by
      refine ⟨K0, 1, fun k hk => ?_⟩
      have e1 := e0 k hk
      simp only [Bool.and_true] at e1
      simp only [impl_DevOk.l0]
      rw [if_neg (by omega)]
      exact e1) 0 (Nat.zero_le _)
  refine evSucc ⟨K, 1, fun k hk => ?_⟩
  have e1 : impl_DevOk.l0 k s (s.length : Int) 0 s c f d = _ := e k hk
  simp only [impl_DevOk.f, impl_within_f, Option.bind_some, impl_DevOk.j0, e1, devOkB]
  cases q1 : decide (1 ≤ (s.length : Int) ∧ (s.length : Int) ≤ 60) with
  | false => simp
  | true =>
    simp only [if_true, Bool.true_and]
    by_cases q2 : (c.length : Int) > 60
    · rw [if_pos q2, decide_eq_false (by omega)]; simp
    · rw [if_neg q2, decide_eq_true (show (c.length : Int) ≤ 60 by omega)]
      cases decide (-1 ≤ f ∧ f ≤ 1000) <;> simp

theorem impl_joined_ev (ls : List (List Int)) (h : ls.flatten.length ≤ 4194304) (h2 : ls.length ≤ 4194304) : Ev (fun k => impl_joined.f k ls) ls.flatten := by
  obtain ⟨K, hk⟩ := evRange0 (σ := List Int) ls.length (fun k s i => impl_joined.l0 k s ls (ls.length : Int) i) (fun i s => s ++ (ls.drop i).flatten = ls.flatten) (fun _ _ => ls.flatten) [] (by simp)
    (by
      intro i s hi hs
      have hd := drop_getD ls i [] hi
      have hr : rd_L1 ls (i : Int) = ls.getD i [] := by simp [rd_L1]
      rw [hd, List.flatten_cons] at hs
      generalize ls.getD i [] = y at *
      have hl : s.length + y.length ≤ 4194304 := by
        have := congrArg List.length hs
        simp only [List.length_append] at this
        omega
      refine .inl ⟨s ++ y, by rw [List.append_assoc]; exact hs, rfl, 0, 1, fun k _ => ?_⟩
      simp only [impl_joined.l0, hr]
      rw [if_pos (by omega), if_pos (by omega), if_pos (by omega), if_pos (by omega), w64s i (by omega)])
    (by
      intro s hs
      refine ⟨0, 1, fun k _ => ?_⟩
      simp only [impl_joined.l0]
      rw [if_neg (by omega)]
      simpa using hs)
  exact ⟨K, fun k hk' => hk k hk'⟩

theorem impl_ReadSec_l0 (s : List (List Int)) (c : List S50) (f n : Int) (d : Bool) (hs : okByteSS s) (hc : okWrS c) (h0 : 0 ≤ n) (h1 : n ≤ (s.length : Int) - 1) : ∀ i, i ≤ c.length → Ev (fun k => impl_ReadSec.l0 k n ((i : Int) - 1) s c f d) (pickB c n (s.getD n.toNat []) i) := by
  have h := okWrS_len hc
  intro i
  induction i with
  | zero =>
    intro _
    obtain ⟨K, e⟩ := impl_joined_ev [s.getD n.toNat []] (by have := getD_len hs n.toNat; simpa using this) (by simp)
    refine evSucc ⟨K, 1, fun k hk => ?_⟩
    have hr : rd_L1 s n = s.getD n.toNat [] := by simp [rd_L1]
    have e1 := e k hk
    simp only at e1
    simp only [impl_ReadSec.l0, hr, e1, Option.bind_some]
    rw [if_neg (by omega), if_pos h0, if_pos (by omega)]
    simp [pickB]
  | succ i ih =>
    intro hn
    obtain ⟨K, e⟩ := ih (by omega)
    obtain ⟨K2, e2⟩ := impl_joined_ev [(c.getD i z50).f1] (by have := okWrS_at hc i (by omega); unfold okByteS at this; simpa using this) (by simp)
    refine evSucc ⟨K + K2, 1, fun k hk => ?_⟩
    have a1 := e k (by omega)
    have a2 := e2 k (by omega)
    have hc' : ((i + 1 : Nat) : Int) - 1 = (i : Int) := by omega
    have hr : rd_T50 c (i : Int) = c.getD i z50 := by simp [rd_T50]
    simp only at a1 a2
    simp only [impl_ReadSec.l0, hc', hr, a2, Option.bind_some, pickB]
    rw [if_pos (by omega), if_pos (by omega), if_pos (by omega), w64 (x := (i : Int) - 1) (by omega) (by omega), a1]
    by_cases c1 : (c.getD i z50).f0 = n
    · rw [if_pos c1, if_pos c1]; simp
    · rw [if_neg c1, if_neg c1]
theorem impl_ReadSec_ev (s : List (List Int)) (c : List S50) (f : Int) (d : Bool) (n : Int) (hs : okByteSS s) (hc : okWrS c) : Ev (fun k => impl_ReadSec.f k s c f d n) (readSec s c f n) := by
  have h := okByteSS_len hs
  have h2 := okWrS_len hc
  obtain ⟨K, e⟩ := impl_DevOk_ev s c f d hs hc
  by_cases hn : 0 ≤ n ∧ n ≤ (s.length : Int) - 1
  · obtain ⟨K2, e2⟩ := impl_ReadSec_l0 s c f n d hs hc hn.1 hn.2 c.length (Nat.le_refl _)
    refine ⟨K + K2 + 1, fun k hk => ?_⟩
    obtain ⟨k, rfl⟩ : ∃ m, k = m + 1 := ⟨k - 1, by omega⟩
    have a1 := e (k + 1) (by omega)
    have a2 := e2 k (by omega)
    simp only at a1 a2
    simp only [impl_ReadSec.f, a1, Option.bind_some, readSec, impl_within_f, impl_ReadSec.j0]
    rw [w64 (x := (s.length : Int) - 1) (by omega) (by omega), w64 (x := (c.length : Int) - 1) (by omega) (by omega), a2, decide_eq_true hn]
    cases hq : devOkB s c f with
    | false => simp
    | true => simp [hn]
  · refine ⟨K + 1, fun k hk => ?_⟩
    obtain ⟨k, rfl⟩ : ∃ m, k = m + 1 := ⟨k - 1, by omega⟩
    have a1 := e (k + 1) (by omega)
    simp only at a1
    simp only [impl_ReadSec.f, a1, Option.bind_some, readSec, impl_within_f, impl_ReadSec.j0]
    rw [w64 (x := (s.length : Int) - 1) (by omega) (by omega), decide_eq_false hn]
    cases hq : devOkB s c f with
    | false => simp
    | true => simp; intro h3 h4; exact absurd ⟨h3, h4⟩ hn

theorem heldByteS_ev (l : List Int) (a : Int) (ho : okByteS l) (h0 : 0 ≤ a) (h1 : a ≤ 1099511627776) : Ev (fun k => laws_heldByteS.f k (mkByteS l a) a) (a + cntByteS l) := by
  have h : l.length ≤ 4194304 := ho
  have hl := mkByteS_length l a
  obtain ⟨K, hk⟩ := evRange0 (σ := Int) l.length (fun k s i => laws_heldByteS.l0 k (mkByteS l a) s i) (fun i s => s = a + i) (fun _ _ => a + cntByteS l) a (by simp)
    (by
      intro i s hi hs
      subst hs
      refine .inl ⟨_, rfl, rfl, 0, 1, fun k _ => ?_⟩
      have hr : rd (mkByteS l a) (i : Int) = (a + (i : Int)) % 256 := by
        unfold mkByteS
        rw [rd_nat, range_getD _ _ _ _ hi]
      simp only [laws_heldByteS.l0]
      rw [if_pos (by omega), if_pos (by omega), if_pos hr, w64 (x := a + (i : Int) + 1) (by omega) (by omega), w64s i (by omega)]
      congr 1
      push_cast
      omega)
    (by
      intro s hs
      subst hs
      refine ⟨0, 1, fun k _ => ?_⟩
      simp only [laws_heldByteS.l0]
      rw [if_neg (by omega)]
      rfl)
  exact ⟨K, fun k hk' => hk k hk'⟩

theorem cntByteS_nn' (x : List Int) : 0 ≤ cntByteS x := by unfold cntByteS; omega
def cntByteSS (l : List (List Int)) : Int := cntL cntByteS l
def mkByteSS (l : List (List Int)) (a : Int) : List (List Int) := mkL mkByteS cntByteS l a
theorem cntByteSS_nn0 (l : List (List Int)) : 0 ≤ cntByteSS l := cntL_nn cntByteS cntByteS_nn' l
theorem cntByteSS_bulk : ∀ l : List (List Int), cntByteSS l ≤ (bulkByteSS l : Int)
  | [] => by simp [cntByteSS, cntL, bulkByteSS]
  | x :: xs => by
    have := cntByteSS_bulk xs
    simp only [cntByteSS] at this
    simp only [cntByteSS, cntL, bulkByteSS, cntByteS]
    push_cast
    omega
theorem cntByteSS_nn {l : List (List Int)} (h : okByteSS l) : 0 ≤ cntByteSS l ∧ cntByteSS l ≤ 4194304 := by
  have := cntByteSS_bulk l
  have := cntByteSS_nn0 l
  unfold okByteSS at h
  omega
theorem cntByteSS_take (l : List (List Int)) (i : Nat) : 0 ≤ cntByteSS (l.take i) ∧ cntByteSS (l.take i) ≤ cntByteSS l := ⟨cntByteSS_nn0 _, cntL_take_le cntByteS cntByteS_nn' l i⟩

def mkWr (x : S50) (a : Int) : S50 := ⟨a, mkByteS x.f1 (a + 1)⟩
def cntWr (x : S50) : Int := 1 + cntByteS x.f1
theorem cntWr_nn (x : S50) : 0 ≤ cntWr x := by unfold cntWr cntByteS; omega
def cntWrS (l : List S50) : Int := cntL cntWr l
def mkWrS (l : List S50) (a : Int) : List S50 := mkL mkWr cntWr l a
theorem cntWrS_nn0 (l : List S50) : 0 ≤ cntWrS l := cntL_nn cntWr cntWr_nn l
theorem cntWrS_bulk : ∀ l : List S50, cntWrS l ≤ (bulkWrS l : Int)
  | [] => by simp [cntWrS, cntL, bulkWrS]
  | x :: xs => by
    have := cntWrS_bulk xs
    simp only [cntWrS] at this
    simp only [cntWrS, cntL, bulkWrS, cntWr, cntByteS]
    push_cast
    omega
theorem cntWrS_nn {l : List S50} (h : okWrS l) : 0 ≤ cntWrS l ∧ cntWrS l ≤ 4194304 := by
  have := cntWrS_bulk l
  have := cntWrS_nn0 l
  unfold okWrS at h
  omega
theorem cntWrS_take (l : List S50) (i : Nat) : 0 ≤ cntWrS (l.take i) ∧ cntWrS (l.take i) ≤ cntWrS l := ⟨cntWrS_nn0 _, cntL_take_le cntWr cntWr_nn l i⟩

end Go.Proofs.Ytilhcaofpfeioaa.Pure
