/- The law: the functions that it reaches, each with the proof that the machine's call comes to its answer, what they answer, and the law's row; each theorem says its conditions itself. -/
import Derived.Test.YtkaoiaolbhklnaaZFnKeys4
import Derived.IntWalk
import Derived.Laws.BitsLemmas
import Derived.ChangeArms
import Derived.ChangeShapes
import Derived.WideShapes
import Derived.Test.YtkaoiaolbhklnaaRows
import Derived.WalkKit
import Derived.ProofKit
import Derived.OpenShut
import Derived.ShutString
import Derived.ChangeOld
import Derived.Below
import Derived.SizedLaws
namespace Go.Proofs.Ytkaoiaolbhklnaa.Core
open Go.RowKit Go.Proofs.YtkaoiaolbhklnaaW.PrintWords
theorem w64 {x : Int} (h0 : -9223372036854775808 ≤ x) (h1 : x ≤ 9223372036854775807) : wrap64 x = x := by unfold wrap64; omega
theorem w64s (n : Nat) (h : n ≤ 4611686018427387904) : wrap64 ((n : Int) + 1) = ((n + 1 : Nat) : Int) := by unfold wrap64; omega
theorem evOf {α : Type} {g : Nat → Option α} {r : α} (h : ∀ k, g k = some r) : Ev g r := ⟨0, fun k _ => h k⟩
theorem evSucc {α : Type} {g : Nat → Option α} {r : α} (h : ∃ K d, ∀ k, K ≤ k → g (k + d) = some r) : Ev g r := by
 obtain ⟨K, d, h⟩ := h
 refine ⟨K + d, fun k hk => ?_⟩
 obtain ⟨m, rfl⟩ : ∃ m, k = m + d := ⟨k - d, by omega⟩
 exact h m (by omega)
theorem evRange {σ ρ : Type} (n : Nat) (l : Nat → σ → Int → Option ρ) (Inv : Nat → σ → Prop) (M : Nat → σ → ρ)
  (step : ∀ i s, i < n → Inv i s → (∃ s', Inv (i + 1) s' ∧ M (i + 1) s' = M i s ∧ ∃ K d, ∀ k, K ≤ k → l (k + d) s (i : Int) = l k s' ((i + 1 : Nat) : Int)) ∨ (∃ K d, ∀ k, K ≤ k → l (k + d) s (i : Int) = some (M i s)))
  (done : ∀ s, Inv n s → ∃ K d, ∀ k, K ≤ k → l (k + d) s (n : Int) = some (M n s)) :
  ∀ i s, i ≤ n → Inv i s → Ev (fun k => l k s (i : Int)) (M i s) := by
 have key : ∀ d i s, n - i = d → i ≤ n → Inv i s → Ev (fun k => l k s (i : Int)) (M i s) := by
  intro d
  induction d with
  | zero =>
   intro i s hd hi hinv
   obtain rfl : i = n := by omega
   exact evSucc (done s hinv)
  | succ d ih =>
   intro i s hd hi hinv
   rcases step i s (by omega) hinv with ⟨s', hinv', hM, K, e, h⟩ | h
   ·obtain ⟨K', h'⟩ := ih (i + 1) s' (by omega) (by omega) hinv'
    refine evSucc ⟨K + K', e, fun k hk' => ?_⟩
    show l (k + e) s i = _
    rw [h k (by omega), ← hM]
    exact h' k (by omega)
   ·exact evSucc h
 exact fun i s hi => key _ i s rfl hi
theorem evRange0 {σ ρ : Type} (n : Nat) (l : Nat → σ → Int → Option ρ) (Inv : Nat → σ → Prop) (M : Nat → σ → ρ) (s : σ) (h0 : Inv 0 s)
  (step : ∀ i s, i < n → Inv i s → (∃ s', Inv (i + 1) s' ∧ M (i + 1) s' = M i s ∧ ∃ K d, ∀ k, K ≤ k → l (k + d) s (i : Int) = l k s' ((i + 1 : Nat) : Int)) ∨ (∃ K d, ∀ k, K ≤ k → l (k + d) s (i : Int) = some (M i s)))
  (done : ∀ s, Inv n s → ∃ K d, ∀ k, K ≤ k → l (k + d) s (n : Int) = some (M n s)) :
  Ev (fun k => l k s 0) (M 0 s) := evRange n l Inv M step done 0 s (Nat.zero_le _) h0
theorem evRangeEx {σ ρ : Type} (n : Nat) (l : Nat → σ → Int → Option ρ) (Inv : Nat → σ → Prop) (Post : ρ → Prop)
  (step : ∀ i s, i < n → Inv i s → (∃ s', Inv (i + 1) s' ∧ ∃ K d, ∀ k, K ≤ k → l (k + d) s (i : Int) = l k s' ((i + 1 : Nat) : Int)) ∨ (∃ r, Post r ∧ ∃ K d, ∀ k, K ≤ k → l (k + d) s (i : Int) = some r))
  (done : ∀ s, Inv n s → ∃ r, Post r ∧ ∃ K d, ∀ k, K ≤ k → l (k + d) s (n : Int) = some r) :
  ∀ i s, i ≤ n → Inv i s → ∃ r, Post r ∧ Ev (fun k => l k s (i : Int)) r := by
 have key : ∀ d i s, n - i = d → i ≤ n → Inv i s → ∃ r, Post r ∧ Ev (fun k => l k s (i : Int)) r := by
  intro d
  induction d with
  | zero =>
   intro i s hd hi hinv
   obtain rfl : i = n := by omega
   obtain ⟨r, hp, h⟩ := done s hinv
   exact ⟨r, hp, evSucc h⟩
  | succ d ih =>
   intro i s hd hi hinv
   rcases step i s (by omega) hinv with ⟨s', hinv', K, e, h⟩ | ⟨r, hp, h⟩
   ·obtain ⟨r, hp, K', h'⟩ := ih (i + 1) s' (by omega) (by omega) hinv'
    refine ⟨r, hp, evSucc ⟨K + K', e, fun k hk' => ?_⟩⟩
    show l (k + e) s i = _
    rw [h k (by omega)]
    exact h' k (by omega)
   ·exact ⟨r, hp, evSucc h⟩
 exact fun i s hi => key _ i s rfl hi
def allFrom (p : Nat → Bool) (n i : Nat) : Bool := (List.range' i (n - i)).all p
def fill {β : Type} (c : Nat → β) (l : List β) (i : Nat) : List β := (List.range i).map c ++ l.drop i
theorem drop_getD {α : Type} (l : List α) (i : Nat) (z : α) (h : i < l.length) : l.drop i = l.getD i z :: l.drop (i + 1) := by
 rw [List.drop_eq_getElem_cons h, List.getD_eq_getElem?_getD, List.getElem?_eq_getElem h]; rfl
theorem getD_mem {α : Type} (l : List α) (i : Nat) (z : α) (h : i < l.length) : l.getD i z ∈ l := by
 rw [List.getD_eq_getElem?_getD, List.getElem?_eq_getElem h]; exact List.getElem_mem h
theorem rd_nat (l : List Int) (i : Nat) : rd l (i : Int) = l.getD i 0 := by simp [rd]
theorem and255 (x : Int) : Go.bits .and .i64 x 255 = x % 256 := by
 have e : (BitVec.ofInt IntKind.i64.bits x &&& BitVec.ofInt IntKind.i64.bits 255).toNat = (x % 256).toNat := by
  rw [BitVec.toNat_and, BitVec.toNat_ofInt, BitVec.toNat_ofInt]
  have h2 : ((255 : Int) % ((2 ^ IntKind.i64.bits : Nat) : Int)).toNat = 2 ^ 8 - 1 := by decide
  rw [h2, Nat.and_two_pow_sub_one_eq_mod]
  have h3 : ((2 ^ IntKind.i64.bits : Nat) : Int) = 18446744073709551616 := by decide
  rw [h3]
  omega
 unfold Go.bits
 simp only [e]
 rw [IntKind.wrap_i64]
 omega
theorem orW {a b : Int} (ha : 0 ≤ a ∧ a ≤ 255) (hb : 0 ≤ b ∧ b ≤ 255) : Go.bits .or .i64 (wrap64 ((wrap64 a) * 256)) (wrap64 b) = a * 256 + b := by
 rw [w64 (x := a) (by omega) (by omega), w64 (x := b) (by omega) (by omega), w64 (x := a * 256) (by omega) (by omega)]
 exact bits_join .i64 32 (by decide) (fun n h0 h1 => by rw [IntKind.wrap_i64]; omega) 8 (a * 256) b (by omega) (by omega) (by omega) (by omega) (by omega) (by omega)
theorem xor8 (a b : Nat) (ha : a < 256) (hb : b < 256) : Go.bits .xor .u8 (a : Int) (b : Int) = ((a ^^^ b : Nat) : Int) := by
 have hx : a ^^^ b < 2 ^ 8 := Nat.xor_lt_two_pow (by omega) (by omega)
 have e : (BitVec.ofInt IntKind.u8.bits (a : Int) ^^^ BitVec.ofInt IntKind.u8.bits (b : Int)).toNat = a ^^^ b := by
  rw [BitVec.toNat_xor, BitVec.ofInt_natCast, BitVec.ofInt_natCast, BitVec.toNat_ofNat, BitVec.toNat_ofNat]
  have h3 : 2 ^ IntKind.u8.bits = 256 := by decide
  rw [h3, Nat.mod_eq_of_lt (by omega), Nat.mod_eq_of_lt (by omega)]
 unfold Go.bits
 simp only [e]
 rw [IntKind.wrap_u8]
 omega
theorem wf_u8 {x : Int} (h : (Lit.int .u8 x).wf = true) : 0 ≤ x ∧ x ≤ 255 := by
 simp only [Lit.wf, IntKind.min, IntKind.max, Bool.and_eq_true] at h
 simpa [IntKind.bits, IntKind.signed] using h
end Go.Proofs.Ytkaoiaolbhklnaa.Core

namespace Go.Proofs.Ytkaoiaolbhklnaa.Pure
open Go.RowKit Go.Proofs.Ytkaoiaolbhklnaa.PFnKeys Go.Proofs.Ytkaoiaolbhklnaa.Core Go.Proofs.YtkaoiaolbhklnaaW.PrintWords Go.Proofs.YtkaoiaolbhklnaaW.PrintLast
set_option linter.unusedSimpArgs false
set_option linter.unusedVariables false
theorem impl_within_f (a b c : Int) : impl_within.f a b c = some (decide (b ≤ a ∧ a ≤ c)) := by
 unfold impl_within.f
 by_cases h : a ≥ b
 ·rw [if_pos h]; congr 1; rw [Bool.eq_iff_iff]; simp; omega
 ·rw [if_neg h]; congr 1; rw [Bool.eq_iff_iff]; simp; omega
def keyOk5 (a b c d e : Int) : Bool := decide (0 ≤ a ∧ a ≤ 15) && (decide (1 ≤ b ∧ b ≤ 60) && (decide (0 ≤ c ∧ c ≤ 2) && if c = 1 then decide (0 ≤ d ∧ d ≤ 23) && decide (0 ≤ e ∧ e ≤ 999) else decide (d = 0) && decide (e = 0)))
theorem impl_KeyOk_ev (a b c d e : Int) : Ev (fun k => impl_KeyOk.f k a b c d e) (keyOk5 a b c d e) := by
 refine evSucc ⟨0, 1, fun k _ => ?_⟩
 simp only [impl_KeyOk.f, impl_within_f, Option.bind_some, impl_KeyOk.j0, keyOk5]
 cases h0 : decide (0 ≤ a ∧ a ≤ 15) <;> cases h1 : decide (1 ≤ b ∧ b ≤ 60) <;> cases h2 : decide (0 ≤ c ∧ c ≤ 2) <;> simp only [Bool.false_and, Bool.true_and, Bool.false_eq_true, if_true, if_false, Bool.not_true, Bool.not_false]
 by_cases h3 : c = 1
 ·rw [if_pos h3, if_pos h3]
  cases h4 : decide (0 ≤ d ∧ d ≤ 23) <;> simp only [Bool.false_and, Bool.true_and, Bool.false_eq_true, if_true, if_false]
 ·rw [if_neg h3, if_neg h3]
  by_cases h4 : d = 0
  ·rw [if_pos h4]; simp [h4]; rw [Bool.eq_iff_iff]; simp
  ·rw [if_neg h4]; simp [h4]
theorem impl_joined_ev (ls : List (List Int)) (h : ls.flatten.length ≤ 4194304) (h2 : ls.length ≤ 4194304) : Ev (fun k => impl_joined.f k ls) ls.flatten := by
 obtain ⟨K, hk⟩ := evRange0 (σ := List Int) ls.length (fun k s i => impl_joined.l0 k s ls (ls.length : Int) i) (fun i s => s ++ (ls.drop i).flatten = ls.flatten) (fun _ _ => ls.flatten) [] (by simp)
  (by
   intro i s hi hs
   have hd := drop_getD ls i [] hi
   have hr : rd_L1 ls (i : Int) = ls.getD i [] := by simp [rd_L1]
   rw [hd, List.flatten_cons] at hs
   generalize ls.getD i [] = y at *
   have hl : s.length + y.length ≤ 4194304 := by
    have := congrArg List.length hs
    simp only [List.length_append] at this
    omega
   refine .inl ⟨s ++ y, by rw [List.append_assoc]; exact hs, rfl, 0, 1, fun k _ => ?_⟩
   simp only [impl_joined.l0, hr]
   rw [if_pos (by omega), if_pos (by omega), if_pos (by omega), if_pos (by omega), w64s i (by omega)])
  (by
   intro s hs
   refine ⟨0, 1, fun k _ => ?_⟩
   simp only [impl_joined.l0]
   rw [if_neg (by omega)]
   simpa using hs)
 exact ⟨K, fun k hk' => hk k hk'⟩
def putW (l : List Int) (n : Int) : List Int := l ++ [n / 256 % 256, n % 256]
theorem putW_length (l : List Int) (n : Int) : (putW l n).length = l.length + 2 := by simp [putW]
theorem impl_PutW_ev (l : List Int) (n : Int) (h : l.length ≤ 4194000) : Ev (fun k => impl_PutW.f k l n) (putW l n) := by
 obtain ⟨K, e⟩ := impl_joined_ev [l, [n / 256 % 256, n % 256]] (by simp; omega) (by simp)
 refine ⟨K, fun k hk => ?_⟩
 have e1 := e k hk
 simp only [impl_PutW.f, and255]
 have e2 : n / 256 % 256 % 256 = n / 256 % 256 := by omega
 have e3 : n % 256 % 256 = n % 256 := by omega
 rw [e2, e3]
 simp only at e1
 rw [e1]
 simp [putW]
def putKey (l : List Int) (a b c d e : Int) : List Int := if keyOk5 a b c d e = true then putW (l ++ [a % 256, b % 256, c % 256, d % 256]) e else l
theorem putKey_length (l : List Int) (a b c d e : Int) : (putKey l a b c d e).length ≤ l.length + 6 := by
 unfold putKey
 split
 ·rw [putW_length]; simp
 ·omega
theorem impl_PutKey_ev (l : List Int) (a b c d f : Int) (h : l.length ≤ 4100000) : Ev (fun k => impl_PutKey.f k l a b c d f) (putKey l a b c d f) := by
 obtain ⟨K, e⟩ := impl_KeyOk_ev a b c d f
 obtain ⟨K2, e2⟩ := impl_joined_ev [l] (by simp; omega) (by simp)
 obtain ⟨K3, e3⟩ := impl_PutW_ev (l ++ [a % 256, b % 256, c % 256, d % 256]) f (by simp; omega)
 refine ⟨K + K2 + K3, fun k hk => ?_⟩
 have e1 : impl_KeyOk.f k a b c d f = some (keyOk5 a b c d f) := e k (by omega)
 have e4 : impl_joined.f k [l] = some l := by have := e2 k (by omega); simpa using this
 have e5 : impl_PutW.f k (l ++ [a % 256, b % 256, c % 256, d % 256]) f = some (putW (l ++ [a % 256, b % 256, c % 256, d % 256]) f) := e3 k (by omega)
 simp only [impl_PutKey.f, Option.bind_some, e4, e1, List.length_cons, List.length_nil]
 rw [putKey]
 cases keyOk5 a b c d f with
 | false => simp only [Bool.false_eq_true, if_false]
 | true =>
  simp only [if_true]
  rw [if_pos (by omega), e5]
  rfl
theorem spec_l1In_f (a b c : Int) : spec_l1In.f a b c = some (decide (b ≤ a ∧ a ≤ c)) := by
 unfold spec_l1In.f
 by_cases h : a ≥ b
 ·rw [if_pos h]; congr 1; rw [Bool.eq_iff_iff]; simp; omega
 ·rw [if_neg h]; congr 1; rw [Bool.eq_iff_iff]; simp; omega
theorem spec_KeyOk_ev (a b c d e : Int) : Ev (fun k => spec_KeyOk.f k a b c d e) (keyOk5 a b c d e) := by
 refine evSucc ⟨0, 1, fun k _ => ?_⟩
 simp only [spec_KeyOk.f, spec_l1In_f, Option.bind_some, spec_KeyOk.j0, keyOk5]
 cases h0 : decide (0 ≤ a ∧ a ≤ 15) <;> cases h1 : decide (1 ≤ b ∧ b ≤ 60) <;> cases h2 : decide (0 ≤ c ∧ c ≤ 2) <;> simp only [Bool.false_and, Bool.true_and, Bool.false_eq_true, if_true, if_false, Bool.not_true, Bool.not_false]
 by_cases h3 : c = 1
 ·rw [if_pos h3, if_pos h3]
  cases h4 : decide (0 ≤ d ∧ d ≤ 23) <;> simp only [Bool.false_and, Bool.true_and, Bool.false_eq_true, if_true, if_false]
 ·rw [if_neg h3, if_neg h3]
  by_cases h4 : d = 0
  ·rw [if_pos h4]; simp [h4]; rw [Bool.eq_iff_iff]; simp
  ·rw [if_neg h4]; simp [h4]
def bytesIn (l : List Int) : Prop := ∀ x ∈ l, 0 ≤ x ∧ x ≤ 255
theorem bytesIn_at {l : List Int} (h : bytesIn l) (i : Nat) : 0 ≤ l.getD i 0 ∧ l.getD i 0 ≤ 255 := by
 by_cases hi : i < l.length
 ·exact h _ (getD_mem l i 0 hi)
 ·rw [List.getD_eq_getElem?_getD, List.getElem?_eq_none (by omega)]; decide
def getW (l : List Int) (a : Int) : Int × Int × Bool := if 0 ≤ a ∧ a ≤ (l.length : Int) - 2 then (l.getD a.toNat 0 * 256 + l.getD (a.toNat + 1) 0, a + 2, true) else (0, 0, false)
theorem spec_GetW_ev (l : List Int) (a : Int) (h : l.length ≤ 4194304) (hb : bytesIn l) (ha : -9223372036854775808 ≤ a ∧ a ≤ 9223372036854775807) : spec_GetW.f l a = some (getW l a) := by
 unfold spec_GetW.f getW
 rw [w64 (x := (l.length : Int) - 2) (by omega) (by omega), spec_l1In_f]
 simp only [Option.bind_some, decide_eq_true_eq]
 by_cases c : 0 ≤ a ∧ a ≤ (l.length : Int) - 2
 ·rw [if_pos c, if_pos c, if_pos c.1, if_pos (by omega), w64 (x := a + 1) (by omega) (by omega), if_pos (by omega), if_pos (by omega), w64 (x := a + 2) (by omega) (by omega)]
  have e1 : rd l a = l.getD a.toNat 0 := rfl
  have e2 : rd l (a + 1) = l.getD (a.toNat + 1) 0 := by unfold rd; congr 1; omega
  rw [e1, e2, orW (bytesIn_at hb _) (bytesIn_at hb _)]
 ·rw [if_neg c, if_neg c]
theorem impl_GetW_ev (l : List Int) (a : Int) (h : l.length ≤ 4194304) (hb : bytesIn l) (ha : -9223372036854775808 ≤ a ∧ a ≤ 9223372036854775807) : impl_GetW.f l a = some (getW l a) := by
 unfold impl_GetW.f getW
 rw [w64 (x := (l.length : Int) - 2) (by omega) (by omega)]
 by_cases c : 0 ≤ a ∧ a ≤ (l.length : Int) - 2
 ·rw [if_pos c, if_neg (by omega), if_neg (by omega), if_pos c.1, if_pos (by omega), w64 (x := a + 1) (by omega) (by omega), if_pos (by omega), if_pos (by omega), w64 (x := a + 2) (by omega) (by omega)]
  have e1 : rd l a = l.getD a.toNat 0 := rfl
  have e2 : rd l (a + 1) = l.getD (a.toNat + 1) 0 := by unfold rd; congr 1; omega
  rw [e1, e2, orW (bytesIn_at hb _) (bytesIn_at hb _)]
 ·rw [if_neg c]
  by_cases c1 : a < 0
  ·rw [if_pos c1]
  ·rw [if_neg c1, if_pos (by omega)]
def getKey (l : List Int) (a : Int) : Int × Int × Int × Int × Int × Int × Bool :=
 if (0 ≤ a ∧ a ≤ (l.length : Int) - 6) ∧ keyOk5 (rd l a) (rd l (a + 1)) (rd l (a + 2)) (rd l (a + 3)) (rd l (a + 4) * 256 + rd l (a + 5)) = true then (rd l a, rd l (a + 1), rd l (a + 2), rd l (a + 3), rd l (a + 4) * 256 + rd l (a + 5), a + 6, true) else (0, 0, 0, 0, 0, 0, false)
theorem rd_byte {l : List Int} (hb : bytesIn l) (a : Int) : wrap64 (rd l a) = rd l a := by
 have h := bytesIn_at hb a.toNat
 have e : rd l a = l.getD a.toNat 0 := by simp [rd]
 rw [e]
 exact w64 (by omega) (by omega)
theorem getW_rd (l : List Int) (a : Int) (h : 0 ≤ a ∧ a ≤ (l.length : Int) - 2) : getW l a = (rd l a * 256 + rd l (a + 1), a + 2, true) := by
 unfold getW
 rw [if_pos h]
 have e : rd l a = l.getD a.toNat 0 := by simp [rd]
 have e1 : rd l (a + 1) = l.getD (a.toNat + 1) 0 := by
  have : (a + 1).toNat = a.toNat + 1 := by omega
  simp [rd, this]
 rw [e, e1]
theorem getW_out (l : List Int) (a : Int) (h : ¬ (0 ≤ a ∧ a ≤ (l.length : Int) - 2)) : getW l a = (0, 0, false) := by
 unfold getW; rw [if_neg h]
theorem spec_GetKey_ev (l : List Int) (a : Int) (h : l.length ≤ 4194304) (hb : bytesIn l) (ha : -9223372036854775808 ≤ a ∧ a ≤ 9223372036854775807) : Ev (fun k => spec_GetKey.f k l a) (getKey l a) := by
 by_cases c : 0 ≤ a ∧ a ≤ (l.length : Int) - 6
 ·obtain ⟨K, hK⟩ := spec_KeyOk_ev (rd l a) (rd l (a + 1)) (rd l (a + 2)) (rd l (a + 3)) (rd l (a + 4) * 256 + rd l (a + 5))
  refine ⟨K, fun k hk => ?_⟩
  have hK := hK k hk
  simp only at hK
  have e4 : spec_GetW.f l (a + 4) = some (rd l (a + 4) * 256 + rd l (a + 5), a + 6, true) := by
   rw [spec_GetW_ev l (a + 4) h hb (by omega), getW_rd l (a + 4) (by omega), show a + 4 + 1 = a + 5 by omega, show a + 4 + 2 = a + 6 by omega]
  simp only [spec_GetKey.f, spec_l1In_f, Option.bind_some]
  rw [w64 (x := (l.length : Int) - 6) (by omega) (by omega), w64 (x := a + 4) (by omega) (by omega), w64 (x := a + 1) (by omega) (by omega), w64 (x := a + 2) (by omega) (by omega), w64 (x := a + 3) (by omega) (by omega), decide_eq_true c, if_pos rfl, e4]
  simp only [Option.bind_some]
  rw [if_pos (by omega), if_pos (by omega), if_pos (by omega), if_pos (by omega), if_pos (by omega), if_pos (by omega), if_pos (by omega), if_pos (by omega), rd_byte hb a, rd_byte hb (a + 1), rd_byte hb (a + 2), rd_byte hb (a + 3), hK]
  simp only [Option.bind_some, getKey]
  by_cases q : keyOk5 (rd l a) (rd l (a + 1)) (rd l (a + 2)) (rd l (a + 3)) (rd l (a + 4) * 256 + rd l (a + 5)) = true
  ·rw [if_pos q, if_pos ⟨c, q⟩]
  ·rw [if_neg q, if_neg (fun z => q z.2)]
 ·refine evOf fun k => ?_
  simp only [spec_GetKey.f, spec_l1In_f, Option.bind_some, getKey]
  rw [w64 (x := (l.length : Int) - 6) (by omega) (by omega), decide_eq_false c, if_neg (by decide), if_neg (fun z => c z.1)]
theorem one_bad (l : List Int) (a : Int) : impl_reader_one.f l a true = some (0, a, true) := by
 unfold impl_reader_one.f; rw [if_pos rfl]
theorem one_out (l : List Int) (a : Int) (c : a < 0 ∨ a ≥ (l.length : Int)) : impl_reader_one.f l a false = some (0, a, true) := by
 unfold impl_reader_one.f; rw [if_neg (by decide)]
 by_cases c0 : a < 0
 ·rw [if_pos c0]
 ·rw [if_neg c0, if_pos (by omega)]
theorem one_ok (l : List Int) (a : Int) (h : l.length ≤ 4194304) (hb : bytesIn l) (c : 0 ≤ a ∧ a < (l.length : Int)) : impl_reader_one.f l a false = some (rd l a, a + 1, false) := by
 unfold impl_reader_one.f
 rw [if_neg (by decide), if_neg (by omega), if_neg (by omega), w64 (x := a + 1) (by omega) (by omega), w64 (x := a + 1 - 1) (by omega) (by omega), show a + 1 - 1 = a by omega, if_pos (by omega), if_pos (by omega), rd_byte hb]
theorem word_bad (l : List Int) (a : Int) (h : l.length ≤ 4194304) (hb : bytesIn l) (ha : -9223372036854775808 ≤ a ∧ a ≤ 9223372036854775807) : impl_reader_word.f l a true = some (0, a, true) := by
 unfold impl_reader_word.f; rw [impl_GetW_ev l a h hb ha]
 simp only [Option.bind_some, if_true]
theorem word_out (l : List Int) (a : Int) (h : l.length ≤ 4194304) (hb : bytesIn l) (ha : -9223372036854775808 ≤ a ∧ a ≤ 9223372036854775807) (c : ¬ (0 ≤ a ∧ a ≤ (l.length : Int) - 2)) : impl_reader_word.f l a false = some (0, a, true) := by
 unfold impl_reader_word.f; rw [impl_GetW_ev l a h hb ha, getW_out l a c]
 simp only [Option.bind_some, Bool.false_eq_true, if_false]
theorem word_ok (l : List Int) (a : Int) (h : l.length ≤ 4194304) (hb : bytesIn l) (c : 0 ≤ a ∧ a ≤ (l.length : Int) - 2) : impl_reader_word.f l a false = some (rd l a * 256 + rd l (a + 1), a + 2, false) := by
 unfold impl_reader_word.f; rw [impl_GetW_ev l a h hb (by omega), getW_rd l a c]
 simp only [Option.bind_some, Bool.false_eq_true, if_false, if_true]
theorem impl_GetKey_ev (l : List Int) (a : Int) (h : l.length ≤ 4194304) (hb : bytesIn l) (ha : -9223372036854775808 ≤ a ∧ a ≤ 9223372036854775807) : Ev (fun k => impl_GetKey.f k l a) (getKey l a) := by
 by_cases c : 0 ≤ a ∧ a ≤ (l.length : Int) - 6
 ·obtain ⟨K, hK⟩ := impl_KeyOk_ev (rd l a) (rd l (a + 1)) (rd l (a + 2)) (rd l (a + 3)) (rd l (a + 4) * 256 + rd l (a + 5))
  refine ⟨K, fun k hk => ?_⟩
  have hK := hK k hk
  simp only at hK
  have e4 : impl_reader_word.f l (a + 4) false = some (rd l (a + 4) * 256 + rd l (a + 5), a + 6, false) := by
   rw [word_ok l (a + 4) h hb (by omega), show a + 4 + 1 = a + 5 by omega, show a + 4 + 2 = a + 6 by omega]
  simp only [impl_GetKey.f, impl_reader_key.f, one_ok l a h hb (by omega), Option.bind_some, one_ok l (a + 1) h hb (by omega), show a + 1 + 1 = a + 2 by omega, one_ok l (a + 2) h hb (by omega), show a + 2 + 1 = a + 3 by omega, one_ok l (a + 3) h hb (by omega), show a + 3 + 1 = a + 4 by omega, e4, Bool.false_eq_true, if_false, hK]
  by_cases q : keyOk5 (rd l a) (rd l (a + 1)) (rd l (a + 2)) (rd l (a + 3)) (rd l (a + 4) * 256 + rd l (a + 5)) = true
  ·rw [if_pos q]; simp only [Option.bind_some, Bool.false_eq_true, if_false, getKey]; rw [if_pos ⟨c, q⟩]
  ·rw [if_neg q]; simp only [Option.bind_some, if_true, getKey]; rw [if_neg (fun z => q z.2)]
 ·refine evOf fun k => ?_
  have out : getKey l a = (0, 0, 0, 0, 0, 0, false) := by unfold getKey; rw [if_neg (fun z => c z.1)]
  rw [out]
  have w : ∀ x : Int, -9223372036854775808 ≤ x ∧ x ≤ 9223372036854775807 → impl_reader_word.f l x true = some (0, x, true) := fun x hx => word_bad l x h hb hx
  by_cases c0 : a < 0 ∨ a ≥ (l.length : Int)
  ·simp only [impl_GetKey.f, impl_reader_key.f, one_out l a c0, one_bad, w a ha, Option.bind_some, if_true]
  by_cases c1 : a + 1 ≥ (l.length : Int)
  ·simp only [impl_GetKey.f, impl_reader_key.f, one_ok l a h hb (by omega), one_out l (a + 1) (.inr c1), one_bad, w (a + 1) (by omega), Option.bind_some, if_true]
  by_cases c2 : a + 1 + 1 ≥ (l.length : Int)
  ·simp only [impl_GetKey.f, impl_reader_key.f, one_ok l a h hb (by omega), one_ok l (a + 1) h hb (by omega), one_out l (a + 1 + 1) (.inr c2), one_bad, w (a + 1 + 1) (by omega), Option.bind_some, if_true]
  by_cases c3 : a + 1 + 1 + 1 ≥ (l.length : Int)
  ·simp only [impl_GetKey.f, impl_reader_key.f, one_ok l a h hb (by omega), one_ok l (a + 1) h hb (by omega), one_ok l (a + 1 + 1) h hb (by omega), one_out l (a + 1 + 1 + 1) (.inr c3), w (a + 1 + 1 + 1) (by omega), Option.bind_some, if_true]
  ·simp only [impl_GetKey.f, impl_reader_key.f, one_ok l a h hb (by omega), one_ok l (a + 1) h hb (by omega), one_ok l (a + 1 + 1) h hb (by omega), one_ok l (a + 1 + 1 + 1) h hb (by omega), word_out l (a + 1 + 1 + 1 + 1) h hb (by omega) (by omega), Option.bind_some, if_true]
def curOk (b : List Int) (i : Int) : Prop := bytesIn b ∧ b.length ≤ 1048576 ∧ 0 ≤ i ∧ i ≤ (b.length : Int)
theorem l1New_ex (b : List Int) (hb : bytesIn b) (hl : b.length ≤ 1048576) : ∃ h, Ev (fun k => spec_l1New.f k b) (b, 0, h) := by
 obtain ⟨r, ⟨h, rfl⟩, K, hk⟩ := evRangeEx (σ := Int) b.length (fun k s i => spec_l1New.l0 k b s i) (fun _ _ => True) (fun r => ∃ h, r = (b, 0, h))
  (by
   intro i s hi _
   by_cases c : i < 4000
   ·refine .inl ⟨Go.bits .and .i64 (wrap64 ((wrap64 ((wrap64 (s * 137)) + (wrap64 (rd b (i : Int))))) + 11)) 1073741823, trivial, 0, 1, fun k _ => ?_⟩
    simp only [spec_l1New.l0]
    rw [if_pos (by omega), if_pos (by omega), if_pos (by omega), w64s i (by omega)]
   ·refine .inr ⟨(b, 0, s), ⟨s, rfl⟩, 0, 1, fun k _ => ?_⟩
    simp only [spec_l1New.l0]
    rw [if_pos (by omega), if_neg (by omega)])
  (by
   intro s _
   refine ⟨(b, 0, s), ⟨s, rfl⟩, 0, 1, fun k _ => ?_⟩
   simp only [spec_l1New.l0]
   rw [if_neg (by omega)]) 0 (wrap64 (941941 + (b.length : Int))) (Nat.zero_le _) trivial
 exact ⟨h, K, fun k hk' => hk k hk'⟩
theorem l1Byte_ex (b : List Int) (i h : Int) (hc : curOk b i) : ∃ x j g, spec_l1Byte.f b i h = some (x, j, g) ∧ (0 ≤ x ∧ x ≤ 255) ∧ curOk b j := by
 obtain ⟨hb, hl, h0, h1⟩ := hc
 unfold spec_l1Byte.f
 simp only [and255]
 by_cases c : i < (b.length : Int)
 ·rw [if_pos c, if_pos h0]
  exact ⟨_, _, _, rfl, ⟨by omega, by omega⟩, hb, hl, by rw [w64 (by omega) (by omega)]; omega, by rw [w64 (by omega) (by omega)]; omega⟩
 ·rw [if_neg c]
  exact ⟨_, _, _, rfl, ⟨by omega, by omega⟩, hb, hl, h0, h1⟩
theorem l1Bytes_ex (b : List Int) (i h n : Int) (hc : curOk b i) (h0 : 0 ≤ n) (hn : n ≤ 1048576) : ∃ r : List Int × Int × Int, (r.1.length = n.toNat ∧ bytesIn r.1 ∧ curOk b r.2.1) ∧ Ev (fun k => spec_l1Bytes.f k b i h n) r := by
 obtain ⟨m, rfl⟩ := Int.eq_ofNat_of_zero_le h0
 obtain ⟨r, hp, K, hk⟩ := evRangeEx (σ := List Int × Int × Int) m (fun k s i => spec_l1Bytes.l0 k (m : Int) s.1 i b s.2.1 s.2.2) (fun i s => s.1.length = i ∧ bytesIn s.1 ∧ curOk b s.2.1) (fun r => r.1.length = m ∧ bytesIn r.1 ∧ curOk b r.2.1)
  (by
   rintro i ⟨l, p, q⟩ hi ⟨h1, h2, h3⟩
   simp only at h1 h2 h3
   obtain ⟨x, j, g, e, hx, hj⟩ := l1Byte_ex b p q h3
   refine .inl ⟨(l ++ [x % 256], j, g), ⟨by simp; omega, ?_, hj⟩, 0, 1, fun k _ => ?_⟩
   ·intro y hy
    rcases List.mem_append.1 hy with hy | hy
    ·exact h2 y hy
    ·rw [List.mem_singleton.1 hy]; omega
   ·simp only [spec_l1Bytes.l0, e, Option.bind_some]
    rw [if_pos (by omega), if_pos (by omega), w64s i (by omega)])
  (by
   rintro ⟨l, p, q⟩ ⟨h1, h2, h3⟩
   refine ⟨(l, p, q), ⟨h1, h2, h3⟩, 0, 1, fun k _ => ?_⟩
   simp only [spec_l1Bytes.l0]
   rw [if_neg (by omega)]) 0 ([], i, h) (Nat.zero_le _) ⟨rfl, (by intro x hx; cases hx), hc⟩
 exact ⟨r, by simpa using hp, K, fun k hk' => hk k hk'⟩
theorem l1Below_ex (b : List Int) (i h n : Int) (hc : curOk b i) (hn : n ≤ 9223372036854775807) : ∃ x j g, spec_l1Below.f b i h n = some (x, j, g) ∧ (0 ≤ x ∧ (0 < n → x < n) ∧ (n ≤ 0 → x = 0)) ∧ curOk b j := by
 unfold spec_l1Below.f
 by_cases c : n ≤ 0
 ·rw [if_pos c]; exact ⟨_, _, _, rfl, ⟨by omega, by omega, fun _ => rfl⟩, hc⟩
 rw [if_neg c]
 by_cases c2 : n ≤ 256
 ·rw [if_pos c2]
  obtain ⟨x, j, g, e, hx, hj⟩ := l1Byte_ex b i h hc
  simp only [e, Option.bind_some]
  rw [if_neg (by omega)]
  have h1 := Int.tmod_nonneg (b := n) hx.1
  have h2 := Int.tmod_lt_of_pos x (show 0 < n by omega)
  exact ⟨_, _, _, rfl, ⟨h1, fun _ => h2, fun h => by omega⟩, hj⟩
 ·rw [if_neg c2]
  obtain ⟨x, j, g, e, hx, hj⟩ := l1Byte_ex b i h hc
  obtain ⟨x2, j2, g2, e2, hx2, hj2⟩ := l1Byte_ex b j g hj
  obtain ⟨x3, j3, g3, e3, hx3, hj3⟩ := l1Byte_ex b j2 g2 hj2
  simp only [e, e2, e3, Option.bind_some]
  rw [if_neg (by omega), w64 (x := x * 65536) (by omega) (by omega), w64 (x := x2 * 256) (by omega) (by omega), w64 (x := x * 65536 + x2 * 256) (by omega) (by omega), w64 (x := x * 65536 + x2 * 256 + x3) (by omega) (by omega)]
  have h1 := Int.tmod_nonneg (b := n) (show 0 ≤ x * 65536 + x2 * 256 + x3 by omega)
  have h2 := Int.tmod_lt_of_pos (x * 65536 + x2 * 256 + x3) (show 0 < n by omega)
  exact ⟨_, _, _, rfl, ⟨h1, fun _ => h2, fun h => by omega⟩, hj3⟩
theorem rd_mem (l : List Int) (i : Int) (h0 : 0 ≤ i) (h1 : i < (l.length : Int)) : rd l i ∈ l := by unfold rd; exact getD_mem l i.toNat 0 (by omega)
theorem l1Int_ex (b : List Int) (i h : Int) (l : List Int) (hc : curOk b i) (hl : 0 < l.length) (hm : l.length ≤ 1048576) : ∃ x j g, spec_l1Int.f b i h l = some (x, j, g) ∧ x ∈ l ∧ curOk b j := by
 obtain ⟨x, j, g, e, hx, hj⟩ := l1Below_ex b i h (l.length : Int) hc (by omega)
 have h1 := hx.2.1 (by omega)
 unfold spec_l1Int.f
 simp only [e, Option.bind_some]
 rw [if_pos hx.1, if_pos h1]
 exact ⟨_, _, _, rfl, rd_mem l x hx.1 h1, hj⟩
theorem l3Draw_ex (b : List Int) (i h : Int) (hc : curOk b i) : ∃ x0 x1 x2 x3 x4 j g, spec_l3Draw.f b i h = some (x0, x1, x2, x3, x4, j, g) ∧ (0 ≤ x0 ∧ x0 < 4 ∧ 1 ≤ x1 ∧ x1 ≤ 5 ∧ (x2 = 0 ∧ x3 = 0 ∧ x4 = 0 ∨ x2 = 2 ∧ x3 = 0 ∧ x4 = 0 ∨ x2 = 1 ∧ 0 ≤ x3 ∧ x3 < 24 ∧ 0 ≤ x4 ∧ x4 ≤ 999)) ∧ curOk b j := by
 obtain ⟨a, j, g, e, ha, hj⟩ := l1Below_ex b i h 4 hc (by decide)
 obtain ⟨c, j2, g2, e2, hc2, hj2⟩ := l1Below_ex b j g 5 hj (by decide)
 obtain ⟨d, j3, g3, e3, hd, hj3⟩ := l1Int_ex b j2 g2 [0, 1, 1, 1, 2] hj2 (by decide) (by decide)
 have ha1 := ha.2.1 (by decide)
 have hc3 := hc2.2.1 (by decide)
 unfold spec_l3Draw.f
 simp only [e, e2, e3, Option.bind_some, w64 (x := 1 + c) (by omega) (by omega)]
 simp only [List.mem_cons, List.not_mem_nil, or_false] at hd
 by_cases q : d = 1
 ·obtain ⟨x, j4, g4, e4, hx, hj4⟩ := l1Below_ex b j3 g3 24 hj3 (by decide)
  obtain ⟨y, j5, g5, e5, hy, hj5⟩ := l1Int_ex b j4 g4 [0, 1, 256, 999] hj4 (by decide) (by decide)
  have hx1 := hx.2.1 (by decide)
  simp only [List.mem_cons, List.not_mem_nil, or_false] at hy
  rw [if_pos q]
  simp only [e4, e5, Option.bind_some]
  exact ⟨_, _, _, _, _, _, _, rfl, by omega, hj5⟩
 ·rw [if_neg q]
  exact ⟨_, _, _, _, _, _, _, rfl, by omega, hj3⟩
theorem l3Any_ex (b : List Int) (i h : Int) (hc : curOk b i) : ∃ x0 x1 x2 x3 x4 j g, spec_l3Any.f b i h = some (x0, x1, x2, x3, x4, j, g) ∧ (-1 ≤ x0 ∧ x0 ≤ 16 ∧ 0 ≤ x1 ∧ x1 ≤ 61 ∧ -1 ≤ x2 ∧ x2 ≤ 3 ∧ -1 ≤ x3 ∧ x3 ≤ 24 ∧ -1 ≤ x4 ∧ x4 ≤ 1000) ∧ curOk b j := by
 obtain ⟨x0, x1, x2, x3, x4, j, g, e, hx, hj⟩ := l3Draw_ex b i h hc
 obtain ⟨a, j2, g2, e2, ha, hj2⟩ := l1Below_ex b j g 12 hj (by decide)
 unfold spec_l3Any.f
 simp only [e, e2, Option.bind_some]
 have key : ∀ L : List Int, 0 < L.length → L.length ≤ 1048576 → ∃ x j g, spec_l1Int.f b j2 g2 L = some (x, j, g) ∧ x ∈ L ∧ curOk b j := fun L h1 h2 => l1Int_ex b j2 g2 L hj2 h1 h2
 by_cases q : a = 0
 ·obtain ⟨y, j3, g3, e3, hy, hj3⟩ := key [-1, 15, 16] (by decide) (by decide)
  simp only [List.mem_cons, List.not_mem_nil, or_false] at hy
  rw [if_pos q]
  simp only [e3, Option.bind_some]
  exact ⟨_, _, _, _, _, _, _, rfl, by omega, hj3⟩
 rw [if_neg q]
 by_cases q : a = 1
 ·obtain ⟨y, j3, g3, e3, hy, hj3⟩ := key [0, 60, 61] (by decide) (by decide)
  simp only [List.mem_cons, List.not_mem_nil, or_false] at hy
  rw [if_pos q]
  simp only [e3, Option.bind_some]
  exact ⟨_, _, _, _, _, _, _, rfl, by omega, hj3⟩
 rw [if_neg q]
 by_cases q : a = 2
 ·obtain ⟨y, j3, g3, e3, hy, hj3⟩ := key [-1, 3] (by decide) (by decide)
  simp only [List.mem_cons, List.not_mem_nil, or_false] at hy
  rw [if_pos q]
  simp only [e3, Option.bind_some]
  exact ⟨_, _, _, _, _, _, _, rfl, by omega, hj3⟩
 rw [if_neg q]
 by_cases q : a = 3
 ·obtain ⟨y, j3, g3, e3, hy, hj3⟩ := key [-1, 1, 23, 24] (by decide) (by decide)
  simp only [List.mem_cons, List.not_mem_nil, or_false] at hy
  rw [if_pos q]
  simp only [e3, Option.bind_some]
  exact ⟨_, _, _, _, _, _, _, rfl, by omega, hj3⟩
 rw [if_neg q]
 by_cases q : a = 4
 ·obtain ⟨y, j3, g3, e3, hy, hj3⟩ := key [-1, 1, 999, 1000] (by decide) (by decide)
  simp only [List.mem_cons, List.not_mem_nil, or_false] at hy
  rw [if_pos q]
  simp only [e3, Option.bind_some]
  exact ⟨_, _, _, _, _, _, _, rfl, by omega, hj3⟩
 rw [if_neg q]
 exact ⟨_, _, _, _, _, _, _, rfl, by omega, hj2⟩
theorem DrawPutKey_ex (b : List Int) (hb : bytesIn b) (hl : b.length ≤ 1048576) : ∃ r : List Int × Int × Int × Int × Int × Int, (r.1.length ≤ 3 ∧ bytesIn r.1) ∧ Ev (fun k => spec_DrawPutKey.f k b) r := by
 obtain ⟨h, K, e⟩ := l1New_ex b hb hl
 obtain ⟨x, j, g, e2, hx, hj⟩ := l1Below_ex b 0 h 4 ⟨hb, hl, Int.le_refl _, by omega⟩ (by decide)
 obtain ⟨r, ⟨h1, h2, h3⟩, K2, e3⟩ := l1Bytes_ex b j g x hj hx.1 (by have := hx.2.1 (by decide); omega)
 obtain ⟨x0, x1, x2, x3, x4, j2, g2, e4, -, hj2⟩ := l3Any_ex b r.2.1 r.2.2 h3
 refine ⟨(r.1, x0, x1, x2, x3, x4), ⟨by have := hx.2.1 (by decide); simp only; omega, h2⟩, K + K2, fun k hk => ?_⟩
 have a1 := e k (by omega)
 have a2 := e3 k (by omega)
 simp only at a1 a2
 simp only [spec_DrawPutKey.f, a1, e2, a2, e4, Option.bind_some]
theorem spec_PutW_ev (l : List Int) (n : Int) (h : l.length ≤ 4194304) : spec_PutW.f l n = some (putW l n) := by
 simp only [spec_PutW.f, Option.bind_some, List.length_nil, List.nil_append, List.length_cons, putW]
 rw [if_pos (by omega), if_pos (by omega)]
theorem spec_PutKey_ev (l : List Int) (a b c d f : Int) (h : l.length ≤ 4100000) : Ev (fun k => spec_PutKey.f k l a b c d f) (putKey l a b c d f) := by
 obtain ⟨K, e⟩ := spec_KeyOk_ev a b c d f
 refine ⟨K, fun k hk => ?_⟩
 have e1 : spec_KeyOk.f k a b c d f = some (keyOk5 a b c d f) := e k hk
 simp only [spec_PutKey.f, Option.bind_some, List.length_nil, List.nil_append, List.length_cons, e1]
 rw [if_pos (by omega), putKey]
 cases keyOk5 a b c d f with
 | false => simp only [Bool.false_eq_true, if_false]
 | true =>
  simp only [if_true]
  rw [if_pos (by omega), spec_PutW_ev _ _ (by simp; omega)]
  rfl
theorem l1Bend_ex (b : List Int) (i h : Int) (hc : curOk b i) (l : List Int) (hb : bytesIn l) (hl : l.length ≤ 1048576) : ∃ r j g, spec_l1Bend.f b i h l = some (r, j, g) ∧ (bytesIn r ∧ r.length ≤ l.length) ∧ curOk b j := by
 obtain ⟨a, j, g, e, ha, hj⟩ := l1Below_ex b i h 5 hc (by decide)
 unfold spec_l1Bend.f
 simp only [Option.bind_some, List.length_nil, List.nil_append]
 rw [if_pos (by omega)]
 simp only [e, Option.bind_some]
 by_cases q : a = 0
 ·obtain ⟨x, j2, g2, e2, hx, hj2⟩ := l1Below_ex b j g ((l.length : Int) + 1) hj (by omega)
  have hx1 := hx.2.1 (by omega)
  rw [if_pos q, w64 (x := (l.length : Int) + 1) (by omega) (by omega)]
  simp only [e2, Option.bind_some]
  rw [if_pos hx.1, if_pos (by omega)]
  exact ⟨_, _, _, rfl, ⟨fun y hy => hb y (List.mem_of_mem_take hy), by rw [List.length_take]; omega⟩, hj2⟩
 rw [if_neg q]
 by_cases q1 : a = 1
 ·rw [if_pos q1]
  by_cases c : (l.length : Int) > 0
  ·obtain ⟨x, j2, g2, e2, hx, hj2⟩ := l1Below_ex b j g (l.length : Int) hj (by omega)
   obtain ⟨y, j3, g3, e3, hy, hj3⟩ := l1Below_ex b j2 g2 255 hj2 (by decide)
   have hx1 := hx.2.1 (by omega)
   have hy1 := hy.2.1 (by decide)
   rw [if_pos c]
   simp only [e2, e3, Option.bind_some]
   rw [if_pos hx.1, if_pos hx1]
   refine ⟨_, _, _, rfl, ⟨fun z hz => ?_, by rw [List.length_set]; exact Nat.le_refl _⟩, hj3⟩
   rcases List.mem_or_eq_of_mem_set hz with hz | rfl
   ·exact hb z hz
   ·rw [w64 (x := 1 + y) (by omega) (by omega)]
    have h1 : 0 ≤ rd l x ∧ rd l x ≤ 255 := bytesIn_at hb x.toNat
    obtain ⟨m, hm⟩ := Int.eq_ofNat_of_zero_le h1.1
    obtain ⟨n, hn⟩ := Int.eq_ofNat_of_zero_le (show 0 ≤ (1 + y) % 256 by omega)
    rw [hm, hn, xor8 m n (by omega) (by omega)]
    have := Nat.xor_lt_two_pow (n := 8) (show m < 2 ^ 8 by omega) (show n < 2 ^ 8 by omega)
    omega
  ·rw [if_neg c]
   exact ⟨_, _, _, rfl, ⟨hb, Nat.le_refl _⟩, hj⟩
 ·rw [if_neg q1]
  exact ⟨_, _, _, rfl, ⟨hb, Nat.le_refl _⟩, hj⟩
theorem l1At_ex (b : List Int) (i h : Int) (hc : curOk b i) (l : List Int) (hl : l.length ≤ 1048576) : ∃ x j g, spec_l1At.f b i h l = some (x, j, g) ∧ (-9223372036854775808 ≤ x ∧ x ≤ 9223372036854775807) ∧ curOk b j := by
 obtain ⟨x, j, g, e, hx, hj⟩ := l1Int_ex b i h [0, 0, 0, 1, 2, (l.length : Int), wrap64 ((l.length : Int) - 1), (-1), 9223372036854775807] hc (by simp) (by simp)
 refine ⟨x, j, g, by simp only [spec_l1At.f, e, Option.bind_some], ?_, hj⟩
 rw [w64 (x := (l.length : Int) - 1) (by omega) (by omega)] at hx
 simp only [List.mem_cons, List.not_mem_nil, or_false] at hx
 omega
theorem bytesIn_append {a b : List Int} (ha : bytesIn a) (hb : bytesIn b) : bytesIn (a ++ b) := fun x hx => (List.mem_append.1 hx).elim (ha x) (hb x)
theorem bytesIn_putW {b : List Int} (n : Int) (hb : bytesIn b) : bytesIn (putW b n) := by
 refine bytesIn_append hb (fun x hx => ?_)
 simp only [List.mem_cons, List.not_mem_nil, or_false] at hx
 omega
theorem bytesIn_putKey {b : List Int} (x0 x1 x2 x3 x4 : Int) (hb : bytesIn b) : bytesIn (putKey b x0 x1 x2 x3 x4) := by
 unfold putKey
 split
 ·refine bytesIn_putW _ (bytesIn_append hb (fun x hx => ?_))
  simp only [List.mem_cons, List.not_mem_nil, or_false] at hx
  omega
 ·exact hb
theorem DrawGetKey_ex (b : List Int) (hb : bytesIn b) (hl : b.length ≤ 1048576) : ∃ r : List Int × Int, (r.1.length ≤ 6 ∧ bytesIn r.1 ∧ -9223372036854775808 ≤ r.2 ∧ r.2 ≤ 9223372036854775807) ∧ Ev (fun k => spec_DrawGetKey.f k b) r := by
 obtain ⟨h, K, e⟩ := l1New_ex b hb hl
 obtain ⟨x0, x1, x2, x3, x4, j, g, e2, -, hj⟩ := l3Draw_ex b 0 h ⟨hb, hl, Int.le_refl _, by omega⟩
 obtain ⟨K2, e3⟩ := spec_PutKey_ev [] x0 x1 x2 x3 x4 (by simp)
 have hp := putKey_length [] x0 x1 x2 x3 x4
 simp only [List.length_nil] at hp
 obtain ⟨r, j2, g2, e4, hr, hj2⟩ := l1Bend_ex b j g hj (putKey [] x0 x1 x2 x3 x4) (bytesIn_putKey _ _ _ _ _ (fun x hx => by simp at hx)) (by omega)
 obtain ⟨y, j3, g3, e5, hy, hj3⟩ := l1At_ex b j2 g2 hj2 r (by omega)
 refine ⟨(r, y), ⟨by simp only; omega, hr.1, hy.1, hy.2⟩, K + K2, fun k hk => ?_⟩
 have a1 := e k (by omega)
 have a2 := e3 k (by omega)
 simp only at a1 a2
 simp only [spec_DrawGetKey.f, a1, e2, a2, e4, e5, Option.bind_some]
theorem DrawLessKey_ex (b : List Int) (hb : bytesIn b) (hl : b.length ≤ 1048576) : ∃ u0 u1 u2 u3 u4 v0 v1 v2 v3 v4 : Int, Ev (fun k => spec_DrawLessKey.f k b) (u0, u1, u2, u3, u4, v0, v1, v2, v3, v4) := by
 obtain ⟨h, K, e⟩ := l1New_ex b hb hl
 obtain ⟨x0, x1, x2, x3, x4, j, g, e2, -, hj⟩ := l3Any_ex b 0 h ⟨hb, hl, Int.le_refl _, by omega⟩
 obtain ⟨y0, y1, y2, y3, y4, j2, g2, e3, -, hj2⟩ := l3Any_ex b j g hj
 refine ⟨x0, x1, x2, x3, x4, y0, y1, y2, y3, y4, K, fun k hk => ?_⟩
 have a1 := e k hk
 simp only at a1
 simp only [spec_DrawLessKey.f, a1, e2, e3, Option.bind_some]
theorem LessKey_i (a0 a1 a2 a3 a4 b0 b1 b2 b3 b4 : Int) : impl_LessKey.f a0 a1 a2 a3 a4 b0 b1 b2 b3 b4 = some (decide (a0 < b0 ∨ a0 = b0 ∧ a1 < b1)) := by
 unfold impl_LessKey.f
 split
 ·simp [*]
 ·split
  ·simp [*]
  ·simp [*]
theorem SameSpot_i (a0 a1 a2 a3 a4 b0 b1 b2 b3 b4 : Int) : impl_SameSpot.f a0 a1 a2 a3 a4 b0 b1 b2 b3 b4 = some (decide (a0 = b0 ∧ a1 = b1)) := by
 unfold impl_SameSpot.f
 split
 ·simp only [*, true_and, Option.some.injEq]; rw [Bool.eq_iff_iff]; simp
 ·simp [*]
theorem take6 (c : List Int) (n : Nat) (h : n + 6 ≤ c.length) : (c.take (n + 6)).drop n = [c.getD n 0, c.getD (n + 1) 0, c.getD (n + 2) 0, c.getD (n + 3) 0, c.getD (n + 4) 0, c.getD (n + 5) 0] := by
 rw [List.drop_take, drop_getD c n 0 (by omega), drop_getD c (n + 1) 0 (by omega), drop_getD c (n + 2) 0 (by omega), drop_getD c (n + 3) 0 (by omega), drop_getD c (n + 4) 0 (by omega), drop_getD c (n + 5) 0 (by omega), show n + 6 - n = 6 by omega]
 rfl
theorem rd_nat (c : List Int) (n t : Nat) : rd c ((n : Int) + (t : Int)) = c.getD (n + t) 0 := by
 unfold rd
 congr 1
theorem rd_app (b l : List Int) (t : Nat) : rd (b ++ l) ((b.length : Int) + (t : Int)) = l.getD t 0 := by
 rw [rd_nat, List.getD_eq_getElem?_getD, List.getElem?_append_right (by omega), Nat.add_sub_cancel_left, List.getD_eq_getElem?_getD]
theorem keyOk5_facts {a b c d e : Int} (h : keyOk5 a b c d e = true) : (0 ≤ a ∧ a ≤ 15) ∧ (1 ≤ b ∧ b ≤ 60) ∧ (0 ≤ c ∧ c ≤ 2) ∧ (0 ≤ d ∧ d ≤ 23) ∧ (0 ≤ e ∧ e ≤ 999) := by
 unfold keyOk5 at h
 simp only [Bool.and_eq_true, decide_eq_true_eq] at h
 obtain ⟨h1, h2, h3, h4⟩ := h
 refine ⟨h1, h2, h3, ?_⟩
 split at h4 <;> simp only [Bool.and_eq_true, decide_eq_true_eq] at h4 <;> omega
theorem getKey_bytes {c : List Int} (hb : bytesIn c) (i : Int) (h : (getKey c i).2.2.2.2.2.2 = true) : ∃ n : Nat, i = n ∧ n + 6 ≤ c.length ∧ (getKey c i).2.2.2.2.2.1 = i + 6 ∧ putKey [] (getKey c i).1 (getKey c i).2.1 (getKey c i).2.2.1 (getKey c i).2.2.2.1 (getKey c i).2.2.2.2.1 = (c.take (n + 6)).drop n := by
 unfold getKey at h ⊢
 split at h
 case isFalse => simp at h
 rename_i q
 obtain ⟨n, rfl⟩ := Int.eq_ofNat_of_zero_le q.1.1
 rw [if_pos q]
 refine ⟨n, rfl, by omega, rfl, ?_⟩
 rw [take6 c n (by omega)]
 simp only
 have hk := q.2
 have f := keyOk5_facts hk
 have r0 : rd c (n : Int) = c.getD n 0 := by have := rd_nat c n 0; simpa using this
 have r1 := rd_nat c n 1
 have r2 := rd_nat c n 2
 have r3 := rd_nat c n 3
 have r4 := rd_nat c n 4
 have r5 := rd_nat c n 5
 simp only [Int.natCast_one, Int.cast_ofNat_Int] at r1 r2 r3 r4 r5
 unfold putKey
 rw [if_pos hk]
 rw [r0, r1, r2, r3, r4, r5] at f
 rw [r0, r1, r2, r3, r4, r5]
 have b4 := bytesIn_at hb (n + 4)
 have b5 := bytesIn_at hb (n + 5)
 unfold putW
 simp only [List.nil_append, List.cons_append]
 congr 1
 ·omega
 congr 1
 ·omega
 congr 1
 ·omega
 congr 1
 ·omega
 congr 1
 ·omega
 congr 1
 ·omega
theorem getKey_putKey (b : List Int) (x0 x1 x2 x3 x4 : Int) (h : keyOk5 x0 x1 x2 x3 x4 = true) : getKey (putKey b x0 x1 x2 x3 x4) (b.length : Int) = (x0, x1, x2, x3, x4, ((putKey b x0 x1 x2 x3 x4).length : Int), true) := by
 have f := keyOk5_facts h
 have hp : putKey b x0 x1 x2 x3 x4 = b ++ [x0, x1, x2, x3, x4 / 256, x4 % 256] := by
  unfold putKey putW
  rw [if_pos h, List.append_assoc]
  congr 1
  simp only [List.cons_append, List.nil_append]
  congr 1
  ·omega
  congr 1
  ·omega
  congr 1
  ·omega
  congr 1
  ·omega
  congr 1
  ·omega
 rw [hp]
 have r0 : rd (b ++ [x0, x1, x2, x3, x4 / 256, x4 % 256]) (b.length : Int) = x0 := by have := rd_app b [x0, x1, x2, x3, x4 / 256, x4 % 256] 0; simpa using this
 have r1 := rd_app b [x0, x1, x2, x3, x4 / 256, x4 % 256] 1
 have r2 := rd_app b [x0, x1, x2, x3, x4 / 256, x4 % 256] 2
 have r3 := rd_app b [x0, x1, x2, x3, x4 / 256, x4 % 256] 3
 have r4 := rd_app b [x0, x1, x2, x3, x4 / 256, x4 % 256] 4
 have r5 := rd_app b [x0, x1, x2, x3, x4 / 256, x4 % 256] 5
 simp only [Int.natCast_one, Int.cast_ofNat_Int, List.getD_cons_succ, List.getD_cons_zero] at r1 r2 r3 r4 r5
 unfold getKey
 rw [r0, r1, r2, r3, r4, r5, show x4 / 256 * 256 + x4 % 256 = x4 by omega]
 have hl : ((b ++ [x0, x1, x2, x3, x4 / 256, x4 % 256]).length : Int) = b.length + 6 := by simp
 rw [if_pos ⟨⟨by omega, by omega⟩, h⟩, hl]
theorem keys_j2 (m : Nat) (b p c : List Int) (i en : Int) (is : Bool) (x : Int) (k0 k1 k2 k3 k4 y0 y1 y2 y3 y4 : Int) (hx : x = 1) (hp : p = putKey b k0 k1 k2 k3 k4)
  (hk : impl_KeyOk.f (m + 1) k0 k1 k2 k3 k4 = some (keyOk5 k0 k1 k2 k3 k4)) (hk2 : spec_KeyOk.f (m + 1) k0 k1 k2 k3 k4 = some (keyOk5 k0 k1 k2 k3 k4)) (hk3 : impl_KeyOk.f m k0 k1 k2 k3 k4 = some (keyOk5 k0 k1 k2 k3 k4))
  (hg : impl_GetKey.f m p (b.length : Int) = some (getKey p (b.length : Int)))
  (hi : is = true → ∃ n : Nat, i = n ∧ n + 6 ≤ c.length ∧ en = i + 6 ∧ impl_PutKey.f (m + 1) [] y0 y1 y2 y3 y4 = some ((c.take (n + 6)).drop n)) :
  laws_FnKeys.j2 (m + 2) b p c i en is is x k0 k1 k2 k3 k4 y0 y1 y2 y3 y4 = some true := by
 have h3 : laws_FnKeys.j3 (m + 1) b p false k0 k1 k2 k3 k4 = some true := by
  simp only [laws_FnKeys.j3, Bool.false_eq_true, if_false, hk3, Option.bind_some]
  by_cases q : keyOk5 k0 k1 k2 k3 k4 = true
  ·rw [if_pos q, hg, hp, getKey_putKey b k0 k1 k2 k3 k4 q]
   simp
  ·rw [if_neg q, hp]
   unfold putKey
   rw [if_neg q]
   simp
 subst hx
 simp only [laws_FnKeys.j2, bne_self_eq_false, Bool.false_eq_true, if_false, if_true, hk, hk2, Option.bind_some, h3]
 cases is with
 | false => simp
 | true =>
  obtain ⟨n, rfl, hn, rfl, hpk⟩ := hi rfl
  rw [if_pos rfl, hpk, Option.bind_some, if_pos (by omega), if_pos (by omega), if_pos (by omega), if_pos (by rw [show ((n : Int) + 6).toNat = n + 6 by omega, Int.toNat_natCast])]
theorem FnKeys (l0 : List Int) (h0 : l0.length ≤ 9223372036854775807 ∧ ∀ x ∈ l0, (Lit.int .u8 x).wf = true) : ∃ k, laws_FnKeys.f k l0 = some true := by
 apply Ev.rounds
 have hb : bytesIn l0 := fun x hx => wf_u8 (h0.2 x hx)
 by_cases c : (l0.length : Int) > 1048576
 ·refine evOf fun k => ?_
  simp only [laws_FnKeys.f, laws_big.f, Option.bind_some, decide_eq_true c, if_true]
 have hl : l0.length ≤ 1048576 := by omega
 obtain ⟨⟨b, k0, k1, k2, k3, k4⟩, ⟨hbl, hbb⟩, KA, eA⟩ := DrawPutKey_ex l0 hb hl
 obtain ⟨⟨cc, i⟩, ⟨hcl, hcb, hi0, hi1⟩, KB, eB⟩ := DrawGetKey_ex l0 hb hl
 obtain ⟨u0, u1, u2, u3, u4, v0, v1, v2, v3, v4, KC, eC⟩ := DrawLessKey_ex l0 hb hl
 simp only at hbl hbb hcl hcb hi0 hi1
 obtain ⟨KD, eD⟩ := impl_PutKey_ev b k0 k1 k2 k3 k4 (by omega)
 obtain ⟨KE, eE⟩ := impl_GetKey_ev cc i (by omega) hcb ⟨hi0, hi1⟩
 obtain ⟨KF, eF⟩ := spec_GetKey_ev cc i (by omega) hcb ⟨hi0, hi1⟩
 obtain ⟨KG, eG⟩ := impl_KeyOk_ev k0 k1 k2 k3 k4
 obtain ⟨KH, eH⟩ := spec_KeyOk_ev k0 k1 k2 k3 k4
 have hpl := putKey_length b k0 k1 k2 k3 k4
 obtain ⟨KI, eI⟩ := impl_GetKey_ev (putKey b k0 k1 k2 k3 k4) (b.length : Int) (by omega) (bytesIn_putKey _ _ _ _ _ hbb) (by omega)
 obtain ⟨KJ, eJ⟩ := impl_PutKey_ev [] (getKey cc i).1 (getKey cc i).2.1 (getKey cc i).2.2.1 (getKey cc i).2.2.2.1 (getKey cc i).2.2.2.2.1 (by simp)
 refine ⟨KA + KB + KC + KD + KE + KF + KG + KH + KI + KJ + 4, fun k hk => ?_⟩
 obtain ⟨m, rfl⟩ : ∃ m, k = m + 4 := ⟨k - 4, by omega⟩
 have aA := eA (m + 4) (by omega)
 have aB := eB (m + 4) (by omega)
 have aC := eC (m + 4) (by omega)
 have aD := eD (m + 4) (by omega)
 have aE := eE (m + 4) (by omega)
 have aF := eF (m + 4) (by omega)
 have aG := eG (m + 1) (by omega)
 have aG2 := eG m (by omega)
 have aH := eH (m + 1) (by omega)
 have aI := eI m (by omega)
 have aJ := eJ (m + 1) (by omega)
 simp only at aA aB aC aD aE aF aG aG2 aH aI aJ
 have key : ∀ x : Int, x = 1 → laws_FnKeys.j2 (m + 2) b (putKey b k0 k1 k2 k3 k4) cc i (getKey cc i).2.2.2.2.2.1 (getKey cc i).2.2.2.2.2.2 (getKey cc i).2.2.2.2.2.2 x k0 k1 k2 k3 k4 (getKey cc i).1 (getKey cc i).2.1 (getKey cc i).2.2.1 (getKey cc i).2.2.2.1 (getKey cc i).2.2.2.2.1 = some true := fun x hx =>
  keys_j2 m b _ cc i _ _ x k0 k1 k2 k3 k4 _ _ _ _ _ hx rfl aG aH aG2 aI (fun his => by
   obtain ⟨n, e1, e2, e3, e4⟩ := getKey_bytes hcb i his
   exact ⟨n, e1, e2, e3, by rw [aJ, e4]⟩)
 simp only [laws_FnKeys.f, laws_big.f, Option.bind_some, decide_eq_false c, Bool.false_eq_true, if_false, aA, aD, aB, aE, aF, aC, LessKey_i]
 have hw1 : wrap64 (0 + 1) = 1 := by rw [w64 (by omega) (by omega)]; rfl
 have hways : (decide (u0 < v0 ∨ u0 = v0 ∧ u1 < v1) = true ∧ decide (v0 < u0 ∨ v0 = u0 ∧ v1 < u1) = false ∧ decide (u0 = v0 ∧ u1 = v1) = false) ∨ (decide (u0 < v0 ∨ u0 = v0 ∧ u1 < v1) = false ∧ decide (v0 < u0 ∨ v0 = u0 ∧ v1 < u1) = true ∧ decide (u0 = v0 ∧ u1 = v1) = false) ∨ (decide (u0 < v0 ∨ u0 = v0 ∧ u1 < v1) = false ∧ decide (v0 < u0 ∨ v0 = u0 ∧ v1 < u1) = false ∧ decide (u0 = v0 ∧ u1 = v1) = true) := by
  simp only [decide_eq_true_eq, decide_eq_false_iff_not]
  omega
 rcases hways with ⟨q1, q2, q3⟩ | ⟨q1, q2, q3⟩ | ⟨q1, q2, q3⟩
 ·rw [if_pos q1]
  simp only [laws_FnKeys.j0, laws_FnKeys.j1, LessKey_i, SameSpot_i, Option.bind_some, q2, q3, Bool.false_eq_true, if_false]
  exact key _ rfl
 ·rw [if_neg (by rw [q1]; decide)]
  simp only [laws_FnKeys.j0, laws_FnKeys.j1, LessKey_i, SameSpot_i, Option.bind_some, q2, q3, Bool.false_eq_true, if_false, if_true]
  exact key _ hw1
 ·rw [if_neg (by rw [q1]; decide)]
  simp only [laws_FnKeys.j0, laws_FnKeys.j1, LessKey_i, SameSpot_i, Option.bind_some, q2, q3, Bool.false_eq_true, if_false, if_true]
  exact key _ hw1
end Go.Proofs.Ytkaoiaolbhklnaa.Pure

namespace Go.Proofs.Ytkaoiaolbhklnaa.Op
open Go.RowKit Go.ChangeShapes Go.WideShapes Go.Proofs.YtkaoiaolbhklnaaW.PrintWords
def Opens {α : Type} (P : Program) (t : TypeId) (d : Kd α) (g : α → Prop) : Prop :=
 ∀ {H : Type} {enc : TypeId × Value → H} {w : World} {base : Nat} {spare : Nat → Bool} {held : Bool} {fuel : Nat} {cs : List Value} {x : DataW H × List MemPlace},
  DataW.trod enc P w base spare held fuel t cs = some x → ∃ a, d.K w a cs ∧ g a
theorem opens_int {P : Program} {t : TypeId} {k : IntKind} (ht : P.underlying t = some (.int k)) : Opens P t (Kd.int k) (fun n => (Lit.int k n).wf = true) := by
 intro H enc w base spare held fuel cs x h
 obtain ⟨n, rfl, _, hw⟩ := DataW.trod_int ht h
 exact ⟨n, rfl, hw⟩
theorem opens_slice {α : Type} {P : Program} {t e : TypeId} {d : Kd α} {g : α → Prop} (q : Nat) (ht : P.underlying t = some (.slice e)) (hd : Opens P e d g) (hc : P.cellsOf e = d.sz) :
  Opens P t (Kd.slice q d) (fun xs => xs.length ≤ 9223372036854775807 ∧ ∀ x ∈ xs, g x) := by
 intro H enc w base spare held fuel cs x h
 rcases DataW.trod_slice ht h with ⟨rfl, _⟩ | ⟨a, len, cap, elems, rest, n, _, rfl, _, _, hl, hm, hlen, hel, _, _⟩
 ·exact ⟨[], ⟨none, 0, rfl, Nat.le_refl _, rfl, Nat.zero_le _, fun h => by cases h⟩, by simp, by simp⟩
 ·have each : ∀ i : Fin len, ∃ y : α, g y ∧ ∃ c : List Value, c.length = d.sz ∧ d.K w y c ∧ ∀ j u, c[j]? = some u → w.cell? (a.add (i.val * d.sz + j)) = some u := by
   intro i
   have h1 := hel i.val i.isLt
   rw [List.getElem?_eq_getElem (by omega), Option.bind_eq_some_iff] at h1
   obtain ⟨c, hcs, hy⟩ := h1
   obtain ⟨_, hcl, hcell⟩ := World.cells?_some hcs
   obtain ⟨y, hK, hg⟩ := hd hy
   refine ⟨y, hg, c, by rw [hcl, hc], hK, fun j u hu => ?_⟩
   have hj : j < c.length := (List.getElem?_eq_some_iff.1 hu).1
   have h2 := hcell j (by omega)
   rw [hu] at h2
   rw [← h2, hc]
   congr 1
   exact (Addr.add_add a _ _).symm
  obtain ⟨f, hf⟩ := Classical.axiomOfChoice each
  refine ⟨List.ofFn f, ⟨some a, cap, by rw [List.length_ofFn], by rw [List.length_ofFn]; exact hl, by rw [List.length_ofFn], by rw [List.length_ofFn]; unfold maxLen at hm; omega, fun _ => ⟨a, rfl, fun j p hp => ?_⟩⟩, by rw [List.length_ofFn]; unfold maxLen at hm; omega, fun x hx => ?_⟩
  ·rw [List.getElem?_ofFn] at hp
   split at hp
   ·rename_i hj
    obtain rfl := Option.some.inj hp
    obtain ⟨_, c, h1, h2, h3⟩ := hf ⟨j, hj⟩
    exact ⟨c, h1, h2, h3⟩
   ·cases hp
  ·obtain ⟨i, rfl⟩ := List.mem_ofFn.1 hx
   exact (hf i).1
/-- The fields from one offset on. -/
def OpensL {α : Type} (P : Program) (fs : List Field) (off : Nat) (d : Kd α) (g : α → Prop) : Prop :=
 ∀ {H : Type} {enc : TypeId × Value → H} {w : World} {base : Nat} {spare : Nat → Bool} {held : Bool} {fuel : Nat} {cs : List Value},
  (∀ f ∈ fs, ∃ x, DataW.trod enc P w base spare held fuel f.type ((cs.drop f.offset).take (P.cellsOf f.type)) = some x) → ∃ a, d.K w a ((cs.drop off).take d.sz) ∧ g a
end Go.Proofs.Ytkaoiaolbhklnaa.Op

namespace Go.Proofs.Ytkaoiaolbhklnaa.rowFnKeys
open Go.ChangeShapes Go.WideShapes Go.ChangeAt Go.RowKit
open Go.ChangeMaps (open_string shut_string)
open Go.Proofs.YtkaoiaolbhklnaaW.PrintWords Go.Proofs.Ytkaoiaolbhklnaa.Op Go.Proofs.Ytkaoiaolbhklnaa.PFnKeys
set_option linter.unusedVariables false
set_option linter.unusedSimpArgs false
theorem own : ownKnob Try.prog.godebug = none := by kernel_rfl
theorem laidOut : laidOutB Try.prog = true := by kernel_rfl
set_option maxRecDepth 100000 in
theorem lifted (os : Os) (started : os.Started) (H : Type) (enc : TypeId × Value → H) :
  ReturnsInHanded {} Try.checked os 5 .any (Rows.fnKeysSpec.pre6 enc Try.prog Try.f5 Rows.fnKeysRow.domain false) (Rows.fnKeysSpec.post enc Try.prog Try.f5 false true false false) := by
 refine returnsInHanded_of_change_sized (C := Try.checked) own started (by kernel_rfl) Try.func5
  (ChangeSpec.witness6 (enc := enc) (C := Try.checked) false ⟨#[], #[.slice none 0 0], []⟩ 8 (by kernel_rfl) (by kernel_rfl) (by kernel_rfl) (by kernel_rfl)) ?_
 intro W base args ds gs before hval0 hW hcnd hsz0 _
 have hval : ∀ (j : Nat) t v, Try.f5.params[j]? = some t → args[j]? = some v → Value.okWide Try.prog W .any base t v := hval0
 have hW' := hW
 obtain ⟨p, q, hA0, hV, rfl, hfz, hnd⟩ := hW
 have hA : DataW.TrodAll enc Try.prog W 0 (fun _ => true) true Try.f5.params.toList args.toList ds p := hA0
 rw [Try.params5] at hA hval
 obtain ⟨v0, vs0, d0, ds0, p0, q0, hargs, rfl, rfl, h0, r0⟩ := trodAll_cons hA
 obtain ⟨rfl, rfl, rfl⟩ := trodAll_nil r0
 obtain rfl : args = #[v0] := by cases args; simp_all
 obtain ⟨rfl, rfl⟩ := trodVars_none hV
 have k0 := h0
 have lt0 : ∀ x ∈ p0, x.block < W.heap.size := by obtain ⟨m, hm⟩ := k0; exact DataW.trod_lt m _ _ _ hm
 obtain ⟨fuel0, hf0⟩ := h0
 obtain ⟨b0, len0, cap0, rfl⟩ := okWide_slice Try.underlying22 (hval 0 22 v0 rfl rfl)
 obtain ⟨l0, ⟨A0, c0, e0, hc0, hC0⟩, g0⟩ := (opens_slice 5 Try.underlying22 (opens_int Try.underlying5) (by kernel_rfl)) hf0
 simp only [Value.cells, List.cons.injEq, Value.slice.injEq, and_true] at e0
 obtain ⟨rfl, rfl, rfl⟩ := e0
 clear hA0 hval0 hsz0
 obtain ⟨k, hk⟩ := Pure.FnKeys l0 g0
 refine (laws_FnKeys.calls k _ _ _ true W hC0 hc0 hk).mono fun e W' ⟨he, bel0⟩ => ?_
 have bel : Below W.heap.size W W' := by first | exact bel0 | exact bel0.below
 subst he
 exact ⟨_, rfl, _, _, _, [], _, [], hW', trodAll_mk1 (shut_bool Try.underlying4 _), (trodAll_cons_mk (Below.trod laidOut (by kernel_rfl) (lE (by kernel_rfl)) k0 bel lt0) trodAll_mk0), rfl, bel.frame _, fun h => by cases h⟩
theorem over : Rows.fnKeysRow.holds Try.pinned (OpenSpec.ofChange Rows.fnKeysSpec) :=
 OpenClaim.holds_of_wide 5 Try.f5 rfl rfl rfl rfl rfl rfl rfl ⟨rfl, rfl, rfl, rfl, rfl⟩ rfl rfl rfl rfl rfl (by kernel_rfl) Try.func5 (by kernel_rfl)
  (lE (by kernel_rfl)) (by unfold Func.isWrapper; first | (rw [if_pos (by decide +kernel)]; kernel_rfl) | (rw [if_neg (by decide +kernel)]; exact ⟨rfl, rfl⟩))
  (fun os started H enc _ => lifted os started H enc)
theorem proved : Rows.FnKeysSaid := over
#print axioms proved
end Go.Proofs.Ytkaoiaolbhklnaa.rowFnKeys
namespace Go.Proofs.Ytkaoiaolbhklnaa
theorem fnKeys_holds : Rows.FnKeysSaid := rowFnKeys.proved
end Go.Proofs.Ytkaoiaolbhklnaa
