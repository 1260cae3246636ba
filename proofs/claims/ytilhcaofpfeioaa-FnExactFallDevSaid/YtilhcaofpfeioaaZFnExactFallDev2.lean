/- The law: the functions that it reaches, each with the proof that the machine's call comes to its answer, what they answer, and the law's row; each theorem says its conditions itself. -/
import Derived.Test.YtilhcaofpfeioaaZFnExactFallDev1
import Derived.IntWalk
import Derived.Laws.BitsLemmas
namespace Go.Proofs.Ytilhcaofpfeioaa.Core
open Go.RowKit Go.Proofs.YtilhcaofpfeioaaW.PrintWords
theorem w64 {x : Int} (h0 : -9223372036854775808 ≤ x) (h1 : x ≤ 9223372036854775807) : wrap64 x = x := by unfold wrap64; omega
theorem w64s (n : Nat) (h : n ≤ 4611686018427387904) : wrap64 ((n : Int) + 1) = ((n + 1 : Nat) : Int) := by unfold wrap64; omega
theorem evOf {α : Type} {g : Nat → Option α} {r : α} (h : ∀ k, g k = some r) : Ev g r := ⟨0, fun k _ => h k⟩
theorem evGet {α : Type} {g : Nat → Option α} {r : α} (h : Ev g r) : ∃ k, g k = some r := by
 obtain ⟨K, h⟩ := h
 exact ⟨K, h K (Nat.le_refl _)⟩
theorem evSucc {α : Type} {g : Nat → Option α} {r : α} (h : ∃ K d, ∀ k, K ≤ k → g (k + d) = some r) : Ev g r := by
 obtain ⟨K, d, h⟩ := h
 refine ⟨K + d, fun k hk => ?_⟩
 obtain ⟨m, rfl⟩ : ∃ m, k = m + d := ⟨k - d, by omega⟩
 exact h m (by omega)
theorem evRange {σ ρ : Type} (n : Nat) (l : Nat → σ → Int → Option ρ) (Inv : Nat → σ → Prop) (M : Nat → σ → ρ)
  (step : ∀ i s, i < n → Inv i s → (∃ s', Inv (i + 1) s' ∧ M (i + 1) s' = M i s ∧ ∃ K d, ∀ k, K ≤ k → l (k + d) s (i : Int) = l k s' ((i + 1 : Nat) : Int)) ∨ (∃ K d, ∀ k, K ≤ k → l (k + d) s (i : Int) = some (M i s)))
  (done : ∀ s, Inv n s → ∃ K d, ∀ k, K ≤ k → l (k + d) s (n : Int) = some (M n s)) :
  ∀ i s, i ≤ n → Inv i s → Ev (fun k => l k s (i : Int)) (M i s) := by
 have key : ∀ d i s, n - i = d → i ≤ n → Inv i s → Ev (fun k => l k s (i : Int)) (M i s) := by
  intro d
  induction d with
  | zero =>
   intro i s hd hi hinv
   obtain rfl : i = n := by omega
   exact evSucc (done s hinv)
  | succ d ih =>
   intro i s hd hi hinv
   rcases step i s (by omega) hinv with ⟨s', hinv', hM, K, e, h⟩ | h
   ·obtain ⟨K', h'⟩ := ih (i + 1) s' (by omega) (by omega) hinv'
    refine evSucc ⟨K + K', e, fun k hk' => ?_⟩
    show l (k + e) s i = _
    rw [h k (by omega), ← hM]
    exact h' k (by omega)
   ·exact evSucc h
 exact fun i s hi => key _ i s rfl hi
theorem evRange0 {σ ρ : Type} (n : Nat) (l : Nat → σ → Int → Option ρ) (Inv : Nat → σ → Prop) (M : Nat → σ → ρ) (s : σ) (h0 : Inv 0 s)
  (step : ∀ i s, i < n → Inv i s → (∃ s', Inv (i + 1) s' ∧ M (i + 1) s' = M i s ∧ ∃ K d, ∀ k, K ≤ k → l (k + d) s (i : Int) = l k s' ((i + 1 : Nat) : Int)) ∨ (∃ K d, ∀ k, K ≤ k → l (k + d) s (i : Int) = some (M i s)))
  (done : ∀ s, Inv n s → ∃ K d, ∀ k, K ≤ k → l (k + d) s (n : Int) = some (M n s)) :
  Ev (fun k => l k s 0) (M 0 s) := evRange n l Inv M step done 0 s (Nat.zero_le _) h0
def allFrom (p : Nat → Bool) (n i : Nat) : Bool := (List.range' i (n - i)).all p
theorem allFrom_lt {p : Nat → Bool} {n i : Nat} (h : i < n) : allFrom p n i = (p i && allFrom p n (i + 1)) := by
 unfold allFrom
 rw [show n - i = (n - (i + 1)) + 1 by omega, List.range'_succ, List.all_cons]
theorem allFrom_end (p : Nat → Bool) (n : Nat) : allFrom p n n = true := by simp [allFrom]
theorem allFrom_iff {p : Nat → Bool} {n i : Nat} : allFrom p n i = true ↔ ∀ j, i ≤ j → j < n → p j = true := by
 simp only [allFrom, List.all_eq_true, List.mem_range'_1]
 constructor
 ·intro h j h1 h2; exact h j ⟨h1, by omega⟩
 ·intro h j hj; exact h j hj.1 (by omega)
theorem evAll (n : Nat) (l : Nat → Int → Option Bool) (p : Nat → Bool) (fin : Bool)
  (step : ∀ i, i < n → ∃ K d, ∀ k, K ≤ k → l (k + d) (i : Int) = if p i = true then l k ((i + 1 : Nat) : Int) else some false)
  (done : ∃ K d, ∀ k, K ≤ k → l (k + d) (n : Int) = some fin) (i : Nat) (hi : i ≤ n) : Ev (fun k => l k (i : Int)) (allFrom p n i && fin) := by
 refine evRange (σ := Unit) n (fun k _ i => l k i) (fun _ _ => True) (fun i _ => allFrom p n i && fin) ?_ ?_ i () hi trivial
 ·intro i _ hi _
  obtain ⟨K, d, h⟩ := step i hi
  cases hp : p i with
  | true => exact .inl ⟨(), trivial, by simp [allFrom_lt hi, hp], K, d, fun k hk => by simp only [h k hk, hp, if_true]⟩
  | false => exact .inr ⟨K, d, fun k hk => by simp only [h k hk, hp, allFrom_lt hi, Bool.false_and]; rfl⟩
 ·intro _ _
  obtain ⟨K, d, h⟩ := done
  exact ⟨K, d, fun k hk => by rw [h k hk, allFrom_end, Bool.true_and]⟩
def fill {β : Type} (c : Nat → β) (l : List β) (i : Nat) : List β := (List.range i).map c ++ l.drop i
theorem fill_zero {β : Type} (c : Nat → β) (l : List β) : fill c l 0 = l := by simp [fill]
theorem fill_length {β : Type} (c : Nat → β) (l : List β) (i : Nat) (h : i ≤ l.length) : (fill c l i).length = l.length := by simp [fill]; omega
theorem fill_all {β : Type} (c : Nat → β) (l : List β) : fill c l l.length = (List.range l.length).map c := by simp [fill]
theorem fill_getElem? {β : Type} (c : Nat → β) (l : List β) (i j : Nat) : (fill c l i)[j]? = if j < i then some (c j) else l[j]? := by
 unfold fill
 by_cases h : j < i
 ·rw [if_pos h, List.getElem?_append_left (by simpa using h)]; simp [h]
 ·rw [if_neg h, List.getElem?_append_right (by simp; omega), List.getElem?_drop]; simp; congr 1; omega
theorem fill_set {β : Type} (c : Nat → β) (l : List β) (i : Nat) (h : i < l.length) {v : β} (hv : v = c i) : (fill c l i).set i v = fill c l (i + 1) := by
 subst hv
 apply List.ext_getElem?
 intro j
 rw [List.getElem?_set, fill_getElem?, fill_getElem?, fill_length c l i (by omega)]
 by_cases e : i = j
 ·subst e; simp [h]
 ·rw [if_neg e]
  by_cases h1 : j < i
  ·rw [if_pos h1, if_pos (by omega)]
  ·rw [if_neg h1, if_neg (by omega)]
theorem range_getD {β : Type} (c : Nat → β) (n i : Nat) (z : β) (h : i < n) : ((List.range n).map c).getD i z = c i := by
 rw [List.getD_eq_getElem?_getD]; simp [h]
theorem range_map {α β : Type} (f : α → β) (l : List α) (z : α) : (List.range l.length).map (fun i => f (l.getD i z)) = l.map f := by
 apply List.ext_getElem?
 intro j
 by_cases h : j < l.length
 ·simp [h]
 ·simp [h]
theorem range_id {α : Type} (l : List α) (z : α) : (List.range l.length).map (fun i => l.getD i z) = l := by
 rw [range_map (fun x => x)]; simp
theorem drop_getD {α : Type} (l : List α) (i : Nat) (z : α) (h : i < l.length) : l.drop i = l.getD i z :: l.drop (i + 1) := by
 rw [List.drop_eq_getElem_cons h, List.getD_eq_getElem?_getD, List.getElem?_eq_getElem h]; rfl
theorem take_getD {α : Type} (l : List α) (i : Nat) (z : α) (h : i < l.length) : l.take (i + 1) = l.take i ++ [l.getD i z] := by
 rw [List.take_succ_eq_append_getElem h, List.getD_eq_getElem?_getD, List.getElem?_eq_getElem h]; rfl
theorem getD_mem {α : Type} (l : List α) (i : Nat) (z : α) (h : i < l.length) : l.getD i z ∈ l := by
 rw [List.getD_eq_getElem?_getD, List.getElem?_eq_getElem h]; exact List.getElem_mem h
theorem rd_nat (l : List Int) (i : Nat) : rd l (i : Int) = l.getD i 0 := by simp [rd]
end Go.Proofs.Ytilhcaofpfeioaa.Core

namespace Go.Proofs.Ytilhcaofpfeioaa.Core
open Go.RowKit Go.Proofs.YtilhcaofpfeioaaW.PrintWords
section
variable {α : Type} (mk : α → Int → α) (cnt : α → Int)
def cntL : List α → Int
 | [] => 0
 | x :: xs => cnt x + cntL xs
def mkL : List α → Int → List α
 | [], _ => []
 | x :: xs, a => mk x a :: mkL xs (a + cnt x)
theorem mkL_length : ∀ (l : List α) (a : Int), (mkL mk cnt l a).length = l.length
 | [], _ => rfl
 | x :: xs, a => by simp only [mkL, List.length_cons, mkL_length xs]
theorem cntL_take (z : α) : ∀ (l : List α) (i : Nat), i < l.length → cntL cnt (l.take (i + 1)) = cntL cnt (l.take i) + cnt (l.getD i z)
 | x :: xs, 0, _ => by simp [cntL]
 | x :: xs, i + 1, h => by
  have := cntL_take z xs i (by simpa using h)
  simp only [List.take_succ_cons, cntL, List.getD_cons_succ, this]
  omega
theorem cntL_nn (h : ∀ x, 0 ≤ cnt x) : ∀ l : List α, 0 ≤ cntL cnt l
 | [] => by simp [cntL]
 | x :: xs => by have := cntL_nn h xs; have := h x; simp only [cntL]; omega
theorem cntL_take_le (h : ∀ x, 0 ≤ cnt x) : ∀ (l : List α) (i : Nat), cntL cnt (l.take i) ≤ cntL cnt l
 | [], i => by simp [cntL]
 | x :: xs, 0 => by have := cntL_nn cnt h xs; have := h x; simp only [List.take_zero, cntL]; omega
 | x :: xs, i + 1 => by have := cntL_take_le h xs i; simp only [List.take_succ_cons, cntL]; omega
theorem mkL_getD (z : α) : ∀ (l : List α) (a : Int) (i : Nat), i < l.length → (mkL mk cnt l a).getD i z = mk (l.getD i z) (a + cntL cnt (l.take i))
 | x :: xs, a, 0, _ => by simp [mkL, cntL]
 | x :: xs, a, i + 1, h => by
  have := mkL_getD z xs (a + cnt x) i (by simpa using h)
  simp only [mkL, List.getD_cons_succ, List.take_succ_cons, cntL]
  rw [this]
  congr 1
  omega
/-- The first i are marked. -/
def midL (l : List α) (a : Int) (i : Nat) : List α := (mkL mk cnt l a).take i ++ l.drop i
theorem midL_zero (l : List α) (a : Int) : midL mk cnt l a 0 = l := by simp [midL]
theorem midL_all (l : List α) (a : Int) : midL mk cnt l a l.length = mkL mk cnt l a := by
 simp only [midL, List.drop_length, List.append_nil]
 rw [List.take_of_length_le (by rw [mkL_length]; omega)]
theorem midL_length (l : List α) (a : Int) (i : Nat) (h : i ≤ l.length) : (midL mk cnt l a i).length = l.length := by
 simp only [midL, List.length_append, List.length_take, List.length_drop, mkL_length]
 omega
theorem midL_getElem? (l : List α) (a : Int) (i j : Nat) (h : i ≤ l.length) : (midL mk cnt l a i)[j]? = if j < i then (mkL mk cnt l a)[j]? else l[j]? := by
 have hl : ((mkL mk cnt l a).take i).length = i := by rw [List.length_take, mkL_length]; omega
 unfold midL
 by_cases hj : j < i
 ·rw [if_pos hj, List.getElem?_append_left (by omega), List.getElem?_take, if_pos hj]
 ·rw [if_neg hj, List.getElem?_append_right (by omega), List.getElem?_drop, hl]
  congr 1
  omega
theorem midL_getD (z : α) (l : List α) (a : Int) (i : Nat) (h : i < l.length) : (midL mk cnt l a i).getD i z = l.getD i z := by
 rw [List.getD_eq_getElem?_getD, List.getD_eq_getElem?_getD, midL_getElem? mk cnt l a i i (by omega), if_neg (by omega)]
theorem midL_set (z : α) (l : List α) (a : Int) (i : Nat) (h : i < l.length) : (midL mk cnt l a i).set i (mk (l.getD i z) (a + cntL cnt (l.take i))) = midL mk cnt l a (i + 1) := by
 apply List.ext_getElem?
 intro j
 rw [List.getElem?_set, midL_length mk cnt l a i (by omega), midL_getElem? mk cnt l a i j (by omega), midL_getElem? mk cnt l a (i + 1) j (by omega)]
 by_cases hj : i = j
 ·subst hj
  rw [if_pos rfl, if_pos h, if_pos (by omega), ← mkL_getD mk cnt z l a i h, List.getD_eq_getElem?_getD, List.getElem?_eq_getElem (by rw [mkL_length]; exact h)]
  rfl
 ·rw [if_neg hj]
  by_cases h1 : j < i
  ·rw [if_pos h1, if_pos (by omega)]
  ·rw [if_neg h1, if_neg (by omega)]
end
/-- The blocks from lo on, below hi. -/
def In (lo hi k : Nat) : Prop := lo ≤ k ∧ k < hi
theorem In.off {a b c d : Nat} (h : b ≤ c) : ∀ k, In a b k → ¬ In c d k := fun _ h1 h2 => by unfold In at *; omega
namespace Mem
open Kd
section
variable {α : Type} {d : Kd α} {e n m c base lo hi top : Nat} {w w1 W : World} {A : Option Addr} {v : Value} {xs : List α} {ok P : Nat → Prop}
theorem times (hs : top ≤ W.heap.size) (hb : Below W.heap.size W w1) : ∃ lo hi, lo = W.heap.size ∧ hi = w1.heap.size ∧ top ≤ lo ∧ lo ≤ hi := ⟨_, _, rfl, rfl, hs, hb.size⟩
theorem new_R (h : d.R e w1 lo ok v xs) (eh : hi = w1.heap.size) : ∃ A c, v = .slice A xs.length c ∧ xs.length ≤ c ∧ F d w1 (In lo hi) A xs.length xs ∧ d.R e w1 lo (In lo hi) (.slice A xs.length c) xs := by
 subst eh
 obtain ⟨A, c, rfl, hl, _⟩ := R_reads h
 have h2 : d.R e w1 lo (In lo w1.heap.size) (.slice A xs.length c) xs := R_mono (R_bound h) (fun k hk => ⟨hk.2.1, hk.2.2.1⟩)
 exact ⟨A, c, rfl, hl, R_F h2, h2⟩
theorem new_S (h : Kd.S d e w1 lo ok v xs) (eh : hi = w1.heap.size) : ∃ A c, v = .slice A xs.length c ∧ xs.length ≤ c ∧ F d w1 (In lo hi) A xs.length xs ∧ Kd.S d e w1 lo (In lo hi) (.slice A xs.length c) xs := by
 subst eh
 obtain ⟨A, c, rfl, hl, _⟩ := S_reads h
 have h2 : Kd.S d e w1 lo (In lo w1.heap.size) (.slice A xs.length c) xs := S_mono (S_bound h) (fun k hk => ⟨hk.2.1, hk.2.2.1⟩)
 exact ⟨A, c, rfl, hl, S_F h2, h2⟩
theorem new_SI (h : Kd.S d e w1 lo (In lo hi) v xs) : ∃ A c, v = .slice A xs.length c ∧ xs.length ≤ c ∧ F d w1 (In lo hi) A xs.length xs ∧ Kd.S d e w1 lo (In lo hi) (.slice A xs.length c) xs := by
 obtain ⟨A, c, rfl, hl, _⟩ := S_reads h
 exact ⟨A, c, rfl, hl, S_F h, h⟩
theorem new_N (h : Kd.N d e w1 lo (fun k_ => lo ≤ k_) v xs) (eh : hi = w1.heap.size) : ∃ A c, v = .slice A xs.length c ∧ xs.length ≤ c ∧ F d w1 (In lo hi) A xs.length xs := by
 subst eh
 obtain ⟨A, c, rfl, hl, _⟩ := N_reads h
 exact ⟨A, c, rfl, hl, F_mono (F_bound (N_F h)) (fun k hk => ⟨hk.1, hk.2⟩)⟩
end
theorem back_V {α : Type} {d : Kd α} {e m c base lo : Nat} {w1 : World} {A : Option Addr} {xs : List α} {ok : Nat → Prop} {h2 : Nat} (h : Kd.V d e w1 base ok (.slice A m c) xs) (hl : ∀ k, ok k → lo ≤ k) (eh : h2 = w1.heap.size) : m = xs.length ∧ xs.length ≤ c ∧ Kd.F d w1 (In lo h2) A xs.length xs := by
 subst eh
 obtain ⟨A', c', e, hc, hf⟩ := h
 injection e with e1 e2 e3
 subst e1
 subst e2
 subst e3
 exact ⟨rfl, hc, Kd.F_mono (Kd.F_bound hf) (fun k hk => ⟨hl k hk.1, hk.2⟩)⟩
theorem lent {α : Type} {d : Kd α} {e e2 g n cap base : Nat} {P : Nat → Prop} {W : World} {xs : List (List α)} (h : Kd.S (Kd.slice e d) e2 W base P (.slice (some ⟨g, 0, none⟩) n cap) xs) (i : Int) (h0 : 0 ≤ i) (h1 : i < n) (hnew : ∀ k, W.heap.size ≤ k → P k) :
  ∃ (oki : Nat → Prop) (v : Value), (∀ k, oki k → P k) ∧ d.R e W base oki v (xs.getD i.toNat []) ∧ W.cell? ⟨g, i.toNat, none⟩ = some v ∧
   ∀ (w1 : World) (x' : List α), Kept W w1 oki → d.R e w1 base (fun k => oki k ∨ W.heap.size ≤ k) v x' → Kd.S (Kd.slice e d) e2 w1 base P (.slice (some ⟨g, 0, none⟩) n cap) (xs.set i.toNat x') := by
 obtain ⟨oki, c, hcl, hM, hcc, hoki, hH⟩ := S_lend h [] i h0 h1
 obtain ⟨v, rfl, hR⟩ := hM
 refine ⟨oki, v, fun k hk => (hoki k hk).1, hR, ?_, fun w1 x' hk hR' => ?_⟩
 ·have := hcc 0 v rfl
  simpa [show (Kd.slice e d).sz = 1 from rfl] using this
 ·refine H_back (H_step (H_widen hH) (fun k ho hn hlt => hk.2 k hlt (fun h2 => hn (.inl h2)))) (okp := fun k => oki k ∨ W.heap.size ≤ k) ⟨v, rfl, hR'⟩ (fun k hk' => ?_)
  rcases hk' with hk' | hk'
  ·exact .inl hk'
  ·exact .inr ⟨hnew k hk', hk'⟩
end Mem
end Go.Proofs.Ytilhcaofpfeioaa.Core

namespace Go.Proofs.Ytilhcaofpfeioaa.Pure
open Go.RowKit Go.Proofs.Ytilhcaofpfeioaa.PFnExactFallDev Go.Proofs.Ytilhcaofpfeioaa.Core Go.Proofs.YtilhcaofpfeioaaW.PrintWords Go.Proofs.YtilhcaofpfeioaaW.PrintLast Go.Proofs.YtilhcaofpfeioaaW.PrintMore
set_option linter.unusedSimpArgs false
set_option linter.unusedVariables false
def okByteS (l : List Int) : Prop := l.length ≤ 4194304
def cntByteS (l : List Int) : Int := l.length
def inByteS (l : List Int) : Prop := l.length ≤ 1048576
def sumByteS (l : List Int) : Int := l.length
theorem sumByteS_nn (l : List Int) : 0 ≤ sumByteS l := by unfold sumByteS; omega
theorem in_of_sumByteS {l : List Int} (h : sumByteS l ≤ 1048576) : inByteS l := by unfold sumByteS at h; unfold inByteS; omega
theorem eqByteS_ev (l : List Int) (ho : okByteS l) : Ev (fun k => laws_eqByteS.f k l l) true := by
 have h : l.length ≤ 4194304 := ho
 obtain ⟨K, hk⟩ := evRange0 (σ := Unit) l.length (fun k _ i => laws_eqByteS.l0 k l l i) (fun _ _ => True) (fun _ _ => true) () trivial
  (by
   intro i _ hi _
   refine .inl ⟨(), trivial, rfl, 0, 1, fun k _ => ?_⟩
   simp only [laws_eqByteS.l0]
   rw [if_pos (by omega), if_pos (by omega), if_pos (by omega), if_pos trivial, w64s i (by omega)])
  (by
   intro _ _
   refine ⟨0, 1, fun k _ => ?_⟩
   simp only [laws_eqByteS.l0]
   rw [if_neg (by omega)])
 refine ⟨K, fun k hk' => ?_⟩
 simp only [laws_eqByteS.f]
 rw [if_pos trivial]
 exact hk k hk'
theorem szByteS_f (l : List Int) (a : Int) (hl : l.length ≤ 9223372036854775807) (h0 : 0 ≤ a) (h1 : a ≤ 1048576) : laws_szByteS.f l a = some (if a < sumByteS l then -1 else a - sumByteS l) := by
 unfold laws_szByteS.f sumByteS
 rw [w64 (by omega) (by omega)]
 by_cases h : a < (l.length : Int)
 ·rw [if_pos (by omega), if_pos h]
 ·rw [if_neg (by omega), if_neg h]
theorem szByteS_big (l : List Int) (a : Int) (hl : l.length ≤ 9223372036854775807) (h0 : 0 ≤ a) (h1 : a ≤ 1048576) (h : a < sumByteS l) : Ev (fun _ => laws_szByteS.f l a) (-1) := evOf fun _ => by rw [szByteS_f l a hl h0 h1, if_pos h]
theorem szByteS_fit (l : List Int) (a : Int) (hl : l.length ≤ 9223372036854775807) (h0 : 0 ≤ a) (h1 : a ≤ 1048576) (h : ¬ a < sumByteS l) : Ev (fun _ => laws_szByteS.f l a) (a - sumByteS l) := evOf fun _ => by rw [szByteS_f l a hl h0 h1, if_neg h]
def convByteSS (l : List (List Int)) : List (List Int) := l.map fun x => x
def sumByteSS : List (List Int) → Int
 | [] => 0
 | x :: xs => 1 + sumByteS x + sumByteSS xs
theorem sumByteSS_nn : ∀ l : List (List Int), (l.length : Int) ≤ sumByteSS l
 | [] => by simp [sumByteSS]
 | x :: xs => by
  have := sumByteSS_nn xs
  have := sumByteS_nn x
  simp only [sumByteSS, List.length_cons]
  omega
theorem sumByteSS_pos (l : List (List Int)) : 0 ≤ sumByteSS l := by have := sumByteSS_nn l; omega
theorem sumByteSS_at : ∀ (l : List (List Int)) (i : Nat), i < l.length → 1 + sumByteS (l.getD i []) + sumByteSS (l.drop (i + 1)) = sumByteSS (l.drop i) := by
 intro l i hi
 rw [drop_getD l i [] hi]
 rfl
theorem sumByteSS_drop : ∀ (l : List (List Int)) (i : Nat), sumByteSS (l.drop i) ≤ sumByteSS l
 | [], i => by simp
 | x :: xs, 0 => by simp
 | x :: xs, i + 1 => by
  have := sumByteSS_drop xs i
  have := sumByteS_nn x
  simp only [List.drop_succ_cons, sumByteSS]
  omega
def inByteSS (l : List (List Int)) : Prop := sumByteSS l ≤ 1048576
theorem in_of_sumByteSS {l : List (List Int)} (h : sumByteSS l ≤ 1048576) : inByteSS l := h
theorem inByteSS_len {l : List (List Int)} (h : inByteSS l) : l.length ≤ 1048576 := by have := sumByteSS_nn l; unfold inByteSS at h; omega
theorem inByteSS_at {l : List (List Int)} (h : inByteSS l) (i : Nat) (hi : i < l.length) : inByteS (l.getD i []) := by
 have h1 := sumByteSS_at l i hi
 have h2 := sumByteSS_drop l i
 have h3 := sumByteSS_nn (l.drop (i + 1))
 unfold inByteSS at h
 exact in_of_sumByteS (by omega)
/-- What the impl's side holds, all in all. -/
def bulkByteSS : List (List Int) → Nat
 | [] => 0
 | x :: xs => 1 + x.length + bulkByteSS xs
def okByteSS (l : List (List Int)) : Prop := bulkByteSS l ≤ 4194304
theorem bulkByteSS_len : ∀ l : List (List Int), l.length ≤ bulkByteSS l
 | [] => by simp [bulkByteSS]
 | x :: xs => by have := bulkByteSS_len xs; simp only [bulkByteSS, List.length_cons]; omega
theorem bulkByteSS_at : ∀ (l : List (List Int)) (i : Nat), i < l.length → (l.getD i []).length ≤ bulkByteSS l
 | x :: xs, 0, _ => by simp only [bulkByteSS, List.getD_cons_zero]; omega
 | x :: xs, i + 1, h => by
  have := bulkByteSS_at xs i (by simpa using h)
  simp only [bulkByteSS, List.getD_cons_succ]; omega
theorem okByteSS_at {l : List (List Int)} (h : okByteSS l) (i : Nat) (hi : i < l.length) : okByteS (l.getD i []) := by
 have h1 := bulkByteSS_at l i hi
 unfold okByteSS at h
 show (l.getD i []).length ≤ 4194304
 omega
theorem okByteSS_len {l : List (List Int)} (h : okByteSS l) : l.length ≤ 4194304 := by have := bulkByteSS_len l; unfold okByteSS at h; omega
theorem bulk_convByteSS : ∀ l : List (List Int), (bulkByteSS (convByteSS l) : Int) = sumByteSS l
 | [] => rfl
 | x :: xs => by
  have h1 := bulk_convByteSS xs
  have h2 : (((x).length : Nat) : Int) = sumByteS x := rfl
  (try simp only at h2)
  simp only [convByteSS] at h1
  simp only [convByteSS, List.map_cons, bulkByteSS, sumByteSS]
  omega
theorem ok_of_inByteSS {l : List (List Int)} (h : inByteSS l) : okByteSS (convByteSS l) := by
 have := bulk_convByteSS l
 unfold inByteSS at h
 unfold okByteSS
 omega
theorem eqByteSS_ev (l : List (List Int)) (ho : okByteSS l) : Ev (fun k => laws_eqByteSS.f k l l) true := by
 have h := okByteSS_len ho
 obtain ⟨K, hk⟩ := evRange0 (σ := Unit) l.length (fun k _ i => laws_eqByteSS.l0 k l l i) (fun _ _ => True) (fun _ _ => true) () trivial
  (by
   intro i _ hi _
   have hr : rd_L1 l (i : Int) = l.getD i [] := by simp [rd_L1]
   obtain ⟨K, e⟩ := eqByteS_ev (l.getD i []) (okByteSS_at ho i hi)
   refine .inl ⟨(), trivial, rfl, K, 1, fun k hk => ?_⟩
   have e1 := e k hk
   simp only at e1
   simp only [laws_eqByteSS.l0, hr, e1, Option.bind_some]
   rw [if_pos (by omega), if_pos (by omega), if_pos (by omega), if_pos trivial, w64s i (by omega)])
  (by
   intro _ _
   refine ⟨0, 1, fun k _ => ?_⟩
   simp only [laws_eqByteSS.l0]
   rw [if_neg (by omega)])
 refine ⟨K, fun k hk' => ?_⟩
 simp only [laws_eqByteSS.f]
 rw [if_pos trivial]
 exact hk k hk'
theorem eqWr_ev (n : Int) (l : List Int) (ho : okByteS l) : Ev (fun k => laws_eqWr.f k n l n l) true := by
 obtain ⟨K, e⟩ := eqByteS_ev l ho
 refine ⟨K, fun k hk => ?_⟩
 have e1 := e k hk
 simp only at e1
 simp only [laws_eqWr.f, e1, Option.bind_some, if_true]
theorem szWr_big (n : Int) (l : List Int) (a : Int) (hl : l.length ≤ 9223372036854775807) (h0 : 0 ≤ a) (h1 : a ≤ 1048576) (h : a < sumByteS l) : Ev (fun _ => laws_szWr.f n l a) (-1) := evOf fun _ => by
 simp only [laws_szWr.f, szByteS_f l a hl h0 h1, if_pos h, Option.bind_some]; rfl
theorem szWr_fit (n : Int) (l : List Int) (a : Int) (hl : l.length ≤ 9223372036854775807) (h0 : 0 ≤ a) (h1 : a ≤ 1048576) (h : ¬ a < sumByteS l) : Ev (fun _ => laws_szWr.f n l a) (a - sumByteS l) := evOf fun _ => by
 simp only [laws_szWr.f, szByteS_f l a hl h0 h1, if_neg h, Option.bind_some]; rw [if_neg (by omega)]
def convWrS (l : List (S81)) : List (S50) := l.map fun x => (⟨x.f0, x.f1⟩ : S50)
def sumWrS : List (S81) → Int
 | [] => 0
 | x :: xs => 1 + sumByteS x.f1 + sumWrS xs
theorem sumWrS_nn : ∀ l : List (S81), (l.length : Int) ≤ sumWrS l
 | [] => by simp [sumWrS]
 | x :: xs => by
  have := sumWrS_nn xs
  have := sumByteS_nn x.f1
  simp only [sumWrS, List.length_cons]
  omega
theorem sumWrS_pos (l : List (S81)) : 0 ≤ sumWrS l := by have := sumWrS_nn l; omega
theorem sumWrS_at : ∀ (l : List (S81)) (i : Nat), i < l.length → 1 + sumByteS (l.getD i z81).f1 + sumWrS (l.drop (i + 1)) = sumWrS (l.drop i) := by
 intro l i hi
 rw [drop_getD l i z81 hi]
 rfl
theorem sumWrS_drop : ∀ (l : List (S81)) (i : Nat), sumWrS (l.drop i) ≤ sumWrS l
 | [], i => by simp
 | x :: xs, 0 => by simp
 | x :: xs, i + 1 => by
  have := sumWrS_drop xs i
  have := sumByteS_nn x.f1
  simp only [List.drop_succ_cons, sumWrS]
  omega
def inWrS (l : List (S81)) : Prop := sumWrS l ≤ 1048576
theorem in_of_sumWrS {l : List (S81)} (h : sumWrS l ≤ 1048576) : inWrS l := h
theorem inWrS_len {l : List (S81)} (h : inWrS l) : l.length ≤ 1048576 := by have := sumWrS_nn l; unfold inWrS at h; omega
theorem inWrS_at {l : List (S81)} (h : inWrS l) (i : Nat) (hi : i < l.length) : inByteS (l.getD i z81).f1 := by
 have h1 := sumWrS_at l i hi
 have h2 := sumWrS_drop l i
 have h3 := sumWrS_nn (l.drop (i + 1))
 unfold inWrS at h
 exact in_of_sumByteS (by omega)
/-- What the impl's side holds, all in all. -/
def bulkWrS : List (S50) → Nat
 | [] => 0
 | x :: xs => 1 + x.f1.length + bulkWrS xs
def okWrS (l : List (S50)) : Prop := bulkWrS l ≤ 4194304
theorem bulkWrS_len : ∀ l : List (S50), l.length ≤ bulkWrS l
 | [] => by simp [bulkWrS]
 | x :: xs => by have := bulkWrS_len xs; simp only [bulkWrS, List.length_cons]; omega
theorem bulkWrS_at : ∀ (l : List (S50)) (i : Nat), i < l.length → (l.getD i z50).f1.length ≤ bulkWrS l
 | x :: xs, 0, _ => by simp only [bulkWrS, List.getD_cons_zero]; omega
 | x :: xs, i + 1, h => by
  have := bulkWrS_at xs i (by simpa using h)
  simp only [bulkWrS, List.getD_cons_succ]; omega
theorem okWrS_at {l : List (S50)} (h : okWrS l) (i : Nat) (hi : i < l.length) : okByteS (l.getD i z50).f1 := by
 have h1 := bulkWrS_at l i hi
 unfold okWrS at h
 show (l.getD i z50).f1.length ≤ 4194304
 omega
theorem okWrS_len {l : List (S50)} (h : okWrS l) : l.length ≤ 4194304 := by have := bulkWrS_len l; unfold okWrS at h; omega
theorem bulk_convWrS : ∀ l : List (S81), (bulkWrS (convWrS l) : Int) = sumWrS l
 | [] => rfl
 | x :: xs => by
  have h1 := bulk_convWrS xs
  have h2 : ((((⟨x.f0, x.f1⟩ : S50)).f1.length : Nat) : Int) = sumByteS x.f1 := rfl
  (try simp only at h2)
  simp only [convWrS] at h1
  simp only [convWrS, List.map_cons, bulkWrS, sumWrS]
  omega
theorem ok_of_inWrS {l : List (S81)} (h : inWrS l) : okWrS (convWrS l) := by
 have := bulk_convWrS l
 unfold inWrS at h
 unfold okWrS
 omega
theorem eqWrS_ev (l : List (S50)) (ho : okWrS l) : Ev (fun k => laws_eqWrS.f k l l) true := by
 have h := okWrS_len ho
 obtain ⟨K, hk⟩ := evRange0 (σ := Unit) l.length (fun k _ i => laws_eqWrS.l0 k l l i) (fun _ _ => True) (fun _ _ => true) () trivial
  (by
   intro i _ hi _
   have hr : rd_T50 l (i : Int) = l.getD i z50 := by simp [rd_T50]
   obtain ⟨K, e⟩ := eqWr_ev (l.getD i z50).f0 (l.getD i z50).f1 (okWrS_at ho i hi)
   refine .inl ⟨(), trivial, rfl, K, 1, fun k hk => ?_⟩
   have e1 := e k hk
   simp only at e1
   simp only [laws_eqWrS.l0, hr, e1, Option.bind_some]
   rw [if_pos (by omega), if_pos (by omega), if_pos (by omega), if_pos trivial, w64s i (by omega)])
  (by
   intro _ _
   refine ⟨0, 1, fun k _ => ?_⟩
   simp only [laws_eqWrS.l0]
   rw [if_neg (by omega)])
 refine ⟨K, fun k hk' => ?_⟩
 simp only [laws_eqWrS.f]
 rw [if_pos trivial]
 exact hk k hk'
theorem eqDev_ev (l : List (List Int)) (n : List S50) (f : Int) (d : Bool) (h1 : okByteSS l) (h2 : okWrS n) : Ev (fun k => laws_eqDev.f k l n f d l n f d) true := by
 obtain ⟨K, e⟩ := eqByteSS_ev l h1
 obtain ⟨K2, e2⟩ := eqWrS_ev n h2
 refine ⟨K + K2, fun k hk => ?_⟩
 have a1 := e k (by omega)
 have a2 := e2 k (by omega)
 simp only at a1 a2
 simp only [laws_eqDev.f, a1, a2, Option.bind_some, if_true, bne_self_eq_false, Bool.false_eq_true, if_false]
def mkByteS (l : List Int) (a : Int) : List Int := (List.range l.length).map fun (i : Nat) => (a + (i : Int)) % 256
theorem mkByteS_length (l : List Int) (a : Int) : (mkByteS l a).length = l.length := by simp [mkByteS]
theorem markByteS_ev (l : List Int) (a : Int) (ho : okByteS l) (h0 : 0 ≤ a) (h1 : a ≤ 1099511627776) : Ev (fun k => laws_markByteS.f k l a) (a + cntByteS l, mkByteS l a) := by
 have h : l.length ≤ 4194304 := ho
 obtain ⟨K, hk⟩ := evRange0 (σ := List Int × Int) l.length (fun k s i => laws_markByteS.l0 k s.1 s.2 i) (fun i s => s = (fill (fun i => (a + (i : Int)) % 256) l i, a + i)) (fun _ _ => (a + cntByteS l, mkByteS l a)) (l, a) (by simp [fill_zero])
  (by
   intro i s hi hs
   subst hs
   refine .inl ⟨_, rfl, rfl, 0, 1, fun k _ => ?_⟩
   have hl := fill_length (fun i => (a + (i : Int)) % 256) l i (by omega)
   simp only [laws_markByteS.l0]
   rw [if_pos (by omega), if_pos (by omega), w64 (x := a + (i : Int) + 1) (by omega) (by omega), w64s i (by omega), Int.toNat_natCast, fill_set _ l i hi rfl]
   congr 1
   push_cast
   omega)
  (by
   intro s hs
   subst hs
   refine ⟨0, 1, fun k _ => ?_⟩
   have hl := fill_length (fun i => (a + (i : Int)) % 256) l l.length (by omega)
   simp only [laws_markByteS.l0]
   rw [if_neg (by omega), fill_all]
   rfl)
 exact ⟨K, fun k hk' => hk k hk'⟩
theorem heldByteS_ev (l : List Int) (a : Int) (ho : okByteS l) (h0 : 0 ≤ a) (h1 : a ≤ 1099511627776) : Ev (fun k => laws_heldByteS.f k (mkByteS l a) a) (a + cntByteS l) := by
 have h : l.length ≤ 4194304 := ho
 have hl := mkByteS_length l a
 obtain ⟨K, hk⟩ := evRange0 (σ := Int) l.length (fun k s i => laws_heldByteS.l0 k (mkByteS l a) s i) (fun i s => s = a + i) (fun _ _ => a + cntByteS l) a (by simp)
  (by
   intro i s hi hs
   subst hs
   refine .inl ⟨_, rfl, rfl, 0, 1, fun k _ => ?_⟩
   have hr : rd (mkByteS l a) (i : Int) = (a + (i : Int)) % 256 := by
    unfold mkByteS
    rw [rd_nat, range_getD _ _ _ _ hi]
   simp only [laws_heldByteS.l0]
   rw [if_pos (by omega), if_pos (by omega), if_pos hr, w64 (x := a + (i : Int) + 1) (by omega) (by omega), w64s i (by omega)]
   congr 1
   push_cast
   omega)
  (by
   intro s hs
   subst hs
   refine ⟨0, 1, fun k _ => ?_⟩
   simp only [laws_heldByteS.l0]
   rw [if_neg (by omega)]
   rfl)
 exact ⟨K, fun k hk' => hk k hk'⟩
theorem cntByteS_nn' (x : List Int) : 0 ≤ cntByteS x := by unfold cntByteS; omega
def cntByteSS (l : List (List Int)) : Int := cntL cntByteS l
def mkByteSS (l : List (List Int)) (a : Int) : List (List Int) := mkL mkByteS cntByteS l a
theorem cntByteSS_nn0 (l : List (List Int)) : 0 ≤ cntByteSS l := cntL_nn cntByteS cntByteS_nn' l
theorem cntByteSS_bulk : ∀ l : List (List Int), cntByteSS l ≤ (bulkByteSS l : Int)
 | [] => by simp [cntByteSS, cntL, bulkByteSS]
 | x :: xs => by
  have := cntByteSS_bulk xs
  simp only [cntByteSS] at this
  simp only [cntByteSS, cntL, bulkByteSS, cntByteS]
  push_cast
  omega
theorem cntByteSS_nn {l : List (List Int)} (h : okByteSS l) : 0 ≤ cntByteSS l ∧ cntByteSS l ≤ 4194304 := by
 have := cntByteSS_bulk l
 have := cntByteSS_nn0 l
 unfold okByteSS at h
 omega
theorem cntByteSS_take (l : List (List Int)) (i : Nat) : 0 ≤ cntByteSS (l.take i) ∧ cntByteSS (l.take i) ≤ cntByteSS l := ⟨cntByteSS_nn0 _, cntL_take_le cntByteS cntByteS_nn' l i⟩
theorem heldByteSS_ev (l : List (List Int)) (a : Int) (ho : okByteSS l) (h0 : 0 ≤ a) (h1 : a ≤ 1000000000000) : Ev (fun k => laws_heldByteSS.f k (mkByteSS l a) a) (a + cntByteSS l) := by
 have h := okByteSS_len ho
 have hl : (mkByteSS l a).length = l.length := mkL_length _ _ _ _
 have hc := cntByteSS_nn ho
 obtain ⟨K, hk⟩ := evRange0 (σ := Int) l.length (fun k s i => laws_heldByteSS.l0 k (mkByteSS l a) s i) (fun i s => s = a + cntByteSS (l.take i)) (fun _ _ => a + cntByteSS l) a (by simp [cntByteSS, cntL])
  (by
   intro i s hi hs
   subst hs
   have ht := cntByteSS_take l i
   have hr : rd_L1 (mkByteSS l a) (i : Int) = mkByteS (l.getD i []) (a + cntByteSS (l.take i)) := by
    unfold rd_L1
    rw [Int.toNat_natCast]
    exact mkL_getD mkByteS cntByteS [] l a i hi
   obtain ⟨K, e⟩ := heldByteS_ev (l.getD i []) (a + cntByteSS (l.take i)) (okByteSS_at ho i hi) (by omega) (by omega)
   have hs' : cntByteSS (l.take (i + 1)) = cntByteSS (l.take i) + cntByteS (l.getD i []) := cntL_take cntByteS [] l i hi
   have hn := cntByteS_nn' (l.getD i [])
   refine .inl ⟨_, rfl, rfl, K, 1, fun k hk => ?_⟩
   have e1 := e k hk
   simp only at e1
   simp only [laws_heldByteSS.l0, hr, e1, Option.bind_some]
   rw [if_pos (by omega), if_pos (by omega), if_neg (by omega), w64s i (by omega), hs']
   congr 1
   omega)
  (by
   intro s hs
   subst hs
   refine ⟨0, 1, fun k _ => ?_⟩
   simp only [laws_heldByteSS.l0]
   rw [if_neg (by omega), List.take_length])
 exact ⟨K, fun k hk' => hk k hk'⟩
def mkWr (x : S50) (a : Int) : S50 := ⟨a, mkByteS x.f1 (a + 1)⟩
def cntWr (x : S50) : Int := 1 + cntByteS x.f1
theorem cntWr_nn (x : S50) : 0 ≤ cntWr x := by unfold cntWr cntByteS; omega
def cntWrS (l : List S50) : Int := cntL cntWr l
def mkWrS (l : List S50) (a : Int) : List S50 := mkL mkWr cntWr l a
theorem cntWrS_nn0 (l : List S50) : 0 ≤ cntWrS l := cntL_nn cntWr cntWr_nn l
theorem cntWrS_bulk : ∀ l : List S50, cntWrS l ≤ (bulkWrS l : Int)
 | [] => by simp [cntWrS, cntL, bulkWrS]
 | x :: xs => by
  have := cntWrS_bulk xs
  simp only [cntWrS] at this
  simp only [cntWrS, cntL, bulkWrS, cntWr, cntByteS]
  push_cast
  omega
theorem cntWrS_nn {l : List S50} (h : okWrS l) : 0 ≤ cntWrS l ∧ cntWrS l ≤ 4194304 := by
 have := cntWrS_bulk l
 have := cntWrS_nn0 l
 unfold okWrS at h
 omega
theorem cntWrS_take (l : List S50) (i : Nat) : 0 ≤ cntWrS (l.take i) ∧ cntWrS (l.take i) ≤ cntWrS l := ⟨cntWrS_nn0 _, cntL_take_le cntWr cntWr_nn l i⟩
theorem heldWrS_ev (l : List S50) (a : Int) (ho : okWrS l) (h0 : 0 ≤ a) (h1 : a ≤ 1000000000000) : Ev (fun k => laws_heldWrS.f k (mkWrS l a) a) (a + cntWrS l) := by
 have h := okWrS_len ho
 have hl : (mkWrS l a).length = l.length := mkL_length _ _ _ _
 have hc := cntWrS_nn ho
 obtain ⟨K, hk⟩ := evRange0 (σ := Int) l.length (fun k s i => laws_heldWrS.l0 k (mkWrS l a) s i) (fun i s => s = a + cntWrS (l.take i)) (fun _ _ => a + cntWrS l) a (by simp [cntWrS, cntL])
  (by
   intro i s hi hs
   subst hs
   have ht := cntWrS_take l i
   have hr : rd_T50 (mkWrS l a) (i : Int) = mkWr (l.getD i z50) (a + cntWrS (l.take i)) := by
    unfold rd_T50
    rw [Int.toNat_natCast]
    exact mkL_getD mkWr cntWr z50 l a i hi
   obtain ⟨K, e⟩ := heldByteS_ev (l.getD i z50).f1 (a + cntWrS (l.take i) + 1) (okWrS_at ho i hi) (by omega) (by omega)
   have hs' : cntWrS (l.take (i + 1)) = cntWrS (l.take i) + cntWr (l.getD i z50) := cntL_take cntWr z50 l i hi
   have hn : 0 ≤ cntByteS (l.getD i z50).f1 := by unfold cntByteS; omega
   refine .inl ⟨_, rfl, rfl, K, 1, fun k hk => ?_⟩
   have e1 := e k hk
   simp only at e1
   simp only [laws_heldWrS.l0, hr, mkWr]
   rw [if_pos (by omega), if_pos (by omega), if_pos trivial, w64 (x := a + cntWrS (l.take i) + 1) (by omega) (by omega), e1]
   simp only [Option.bind_some]
   rw [if_neg (by omega), w64s i (by omega), hs']
   unfold cntWr
   congr 1
   omega)
  (by
   intro s hs
   subst hs
   refine ⟨0, 1, fun k _ => ?_⟩
   simp only [laws_heldWrS.l0]
   rw [if_neg (by omega), List.take_length])
 exact ⟨K, fun k hk' => hk k hk'⟩
theorem heldDev_ev (l : List (List Int)) (m : List S50) (x : Int) (y : Bool) (a : Int) (ho : okByteSS l) (ho2 : okWrS m) (h0 : 0 ≤ a) (h1 : a ≤ 900000000000) : Ev (fun k => laws_heldDev.f k (mkByteSS l a) (mkWrS m (a + cntByteSS l)) x y a) (a + (cntByteSS l + cntWrS m)) := by
 have hc := cntByteSS_nn ho
 have hc2 := cntWrS_nn ho2
 unfold laws_heldDev.f
 refine Ev.bind (heldByteSS_ev l a ho h0 (by omega)) ?_
 simp only [if_neg (show ¬ a + cntByteSS l < 0 by omega)]
 refine Ev.bind (heldWrS_ev m _ ho2 (by omega) (by omega)) ?_
 simp only [if_neg (show ¬ a + cntByteSS l + cntWrS m < 0 by omega)]
 rw [show a + (cntByteSS l + cntWrS m) = a + cntByteSS l + cntWrS m by omega]
 exact Ev.now _
def goodByteSS (l : List (List Int)) : Prop := l.length ≤ 9223372036854775807 ∧ ∀ x ∈ l, x.length ≤ 9223372036854775807
theorem szByteSS_l0 (l : List (List Int)) (hg : goodByteSS l) : ∀ (d i : Nat) (s : Int), l.length - i = d → i ≤ l.length → 0 ≤ s → s ≤ 1048576 → l.length ≤ 1048576 → Ev (fun k => laws_szByteSS.l0 k l s (i : Int)) (if s < sumByteSS (l.drop i) - ((l.length : Int) - i) then -1 else s - (sumByteSS (l.drop i) - ((l.length : Int) - i))) := by
 intro d
 induction d with
 | zero =>
  intro i s hd hi h0 h1 hl
  obtain rfl : i = l.length := by omega
  refine evSucc ⟨0, 1, fun k _ => ?_⟩
  simp only [laws_szByteSS.l0]
  rw [if_neg (by omega), List.drop_length]
  rw [show sumByteSS [] = 0 from rfl, if_neg (by omega)]
  congr 1; omega
 | succ d ih =>
  intro i s hd hi h0 h1 hl
  have hlt : i < l.length := by omega
  have hs := sumByteSS_at l i hlt
  have hn := sumByteSS_nn (l.drop (i + 1))
  rw [List.length_drop] at hn
  have hr : rd_L1 l (i : Int) = l.getD i [] := by simp [rd_L1]
  have hgx := hg.2 _ (getD_mem l i [] hlt)
  generalize l.getD i [] = y at *
  have hy := sumByteS_nn y
  by_cases c : s < sumByteS y
  ·obtain ⟨K, e⟩ := szByteS_big y s hgx h0 h1 c
   refine evSucc ⟨K, 1, fun k hk => ?_⟩
   have e1 := e k hk
   simp only at e1
   simp only [laws_szByteSS.l0, hr, e1, Option.bind_some]
   rw [if_pos (by omega), if_pos (by omega), if_pos (by decide), if_pos (by omega)]
  ·obtain ⟨K, e⟩ := szByteS_fit y s hgx h0 h1 c
   obtain ⟨K2, e2⟩ := ih (i + 1) (s - sumByteS y) (by omega) (by omega) (by omega) (by omega) hl
   refine evSucc ⟨K + K2, 1, fun k hk => ?_⟩
   have e1 := e k (by omega)
   have e3 := e2 k (by omega)
   simp only at e1 e3
   simp only [laws_szByteSS.l0, hr, e1, Option.bind_some]
   rw [if_pos (by omega), if_pos (by omega), if_neg (by omega), w64s i (by omega), e3]
   have hc : ((i + 1 : Nat) : Int) = (i : Int) + 1 := by omega
   rw [hc]
   by_cases c2 : s - sumByteS y < sumByteSS (l.drop (i + 1)) - ((l.length : Int) - ((i : Int) + 1))
   ·rw [if_pos c2, if_pos (by omega)]
   ·rw [if_neg c2, if_neg (by omega)]; congr 1; omega
theorem szByteSS_big (l : List (List Int)) (a : Int) (hg : goodByteSS l) (h0 : 0 ≤ a) (h1 : a ≤ 1048576) (h : a < sumByteSS l) : Ev (fun k => laws_szByteSS.f k l a) (-1) := by
 have hn := hg.1
 by_cases c : a < l.length
 ·refine evOf fun k => ?_
  simp only [laws_szByteSS.f]
  rw [w64 (by omega) (by omega), if_pos (by omega)]
 ·obtain ⟨K, e⟩ := szByteSS_l0 l hg _ 0 (a - l.length) rfl (Nat.zero_le _) (by omega) (by omega) (by omega)
  refine ⟨K, fun k hk => ?_⟩
  have e1 := e k hk
  simp only [laws_szByteSS.f]
  rw [w64 (by omega) (by omega), if_neg (by omega)]
  simp only [List.drop_zero, Int.natCast_zero] at e1
  rw [if_pos (by omega)] at e1
  exact e1
theorem szByteSS_fit (l : List (List Int)) (a : Int) (hg : goodByteSS l) (h0 : 0 ≤ a) (h1 : a ≤ 1048576) (h : ¬ a < sumByteSS l) : Ev (fun k => laws_szByteSS.f k l a) (a - sumByteSS l) := by
 have hn := sumByteSS_nn l
 obtain ⟨K, e⟩ := szByteSS_l0 l hg _ 0 (a - l.length) rfl (Nat.zero_le _) (by omega) (by omega) (by omega)
 refine ⟨K, fun k hk => ?_⟩
 have e1 := e k hk
 simp only [laws_szByteSS.f]
 rw [w64 (by omega) (by omega), if_neg (by omega)]
 simp only [List.drop_zero, Int.natCast_zero] at e1
 rw [if_neg (by omega)] at e1
 rw [show a - sumByteSS l = a - ↑l.length - (sumByteSS l - (↑l.length - 0)) by omega]
 exact e1
def goodWrS (l : List (S81)) : Prop := l.length ≤ 9223372036854775807 ∧ ∀ x ∈ l, x.f1.length ≤ 9223372036854775807
theorem szWrS_l0 (l : List (S81)) (hg : goodWrS l) : ∀ (d i : Nat) (s : Int), l.length - i = d → i ≤ l.length → 0 ≤ s → s ≤ 1048576 → l.length ≤ 1048576 → Ev (fun k => laws_szWrS.l0 k l s (i : Int)) (if s < sumWrS (l.drop i) - ((l.length : Int) - i) then -1 else s - (sumWrS (l.drop i) - ((l.length : Int) - i))) := by
 intro d
 induction d with
 | zero =>
  intro i s hd hi h0 h1 hl
  obtain rfl : i = l.length := by omega
  refine evSucc ⟨0, 1, fun k _ => ?_⟩
  simp only [laws_szWrS.l0]
  rw [if_neg (by omega), List.drop_length]
  rw [show sumWrS [] = 0 from rfl, if_neg (by omega)]
  congr 1; omega
 | succ d ih =>
  intro i s hd hi h0 h1 hl
  have hlt : i < l.length := by omega
  have hs := sumWrS_at l i hlt
  have hn := sumWrS_nn (l.drop (i + 1))
  rw [List.length_drop] at hn
  have hr : rd_T81 l (i : Int) = l.getD i z81 := by simp [rd_T81]
  have hgx := hg.2 _ (getD_mem l i z81 hlt)
  generalize l.getD i z81 = y at *
  have hy := sumByteS_nn y.f1
  by_cases c : s < sumByteS y.f1
  ·obtain ⟨K, e⟩ := szWr_big y.f0 y.f1 s hgx h0 h1 c
   refine evSucc ⟨K, 1, fun k hk => ?_⟩
   have e1 := e k hk
   simp only at e1
   simp only [laws_szWrS.l0, hr, e1, Option.bind_some]
   rw [if_pos (by omega), if_pos (by omega), if_pos (by decide), if_pos (by omega)]
  ·obtain ⟨K, e⟩ := szWr_fit y.f0 y.f1 s hgx h0 h1 c
   obtain ⟨K2, e2⟩ := ih (i + 1) (s - sumByteS y.f1) (by omega) (by omega) (by omega) (by omega) hl
   refine evSucc ⟨K + K2, 1, fun k hk => ?_⟩
   have e1 := e k (by omega)
   have e3 := e2 k (by omega)
   simp only at e1 e3
   simp only [laws_szWrS.l0, hr, e1, Option.bind_some]
   rw [if_pos (by omega), if_pos (by omega), if_neg (by omega), w64s i (by omega), e3]
   have hc : ((i + 1 : Nat) : Int) = (i : Int) + 1 := by omega
   rw [hc]
   by_cases c2 : s - sumByteS y.f1 < sumWrS (l.drop (i + 1)) - ((l.length : Int) - ((i : Int) + 1))
   ·rw [if_pos c2, if_pos (by omega)]
   ·rw [if_neg c2, if_neg (by omega)]; congr 1; omega
theorem szWrS_big (l : List (S81)) (a : Int) (hg : goodWrS l) (h0 : 0 ≤ a) (h1 : a ≤ 1048576) (h : a < sumWrS l) : Ev (fun k => laws_szWrS.f k l a) (-1) := by
 have hn := hg.1
 by_cases c : a < l.length
 ·refine evOf fun k => ?_
  simp only [laws_szWrS.f]
  rw [w64 (by omega) (by omega), if_pos (by omega)]
 ·obtain ⟨K, e⟩ := szWrS_l0 l hg _ 0 (a - l.length) rfl (Nat.zero_le _) (by omega) (by omega) (by omega)
  refine ⟨K, fun k hk => ?_⟩
  have e1 := e k hk
  simp only [laws_szWrS.f]
  rw [w64 (by omega) (by omega), if_neg (by omega)]
  simp only [List.drop_zero, Int.natCast_zero] at e1
  rw [if_pos (by omega)] at e1
  exact e1
theorem szWrS_fit (l : List (S81)) (a : Int) (hg : goodWrS l) (h0 : 0 ≤ a) (h1 : a ≤ 1048576) (h : ¬ a < sumWrS l) : Ev (fun k => laws_szWrS.f k l a) (a - sumWrS l) := by
 have hn := sumWrS_nn l
 obtain ⟨K, e⟩ := szWrS_l0 l hg _ 0 (a - l.length) rfl (Nat.zero_le _) (by omega) (by omega) (by omega)
 refine ⟨K, fun k hk => ?_⟩
 have e1 := e k hk
 simp only [laws_szWrS.f]
 rw [w64 (by omega) (by omega), if_neg (by omega)]
 simp only [List.drop_zero, Int.natCast_zero] at e1
 rw [if_neg (by omega)] at e1
 rw [show a - sumWrS l = a - ↑l.length - (sumWrS l - (↑l.length - 0)) by omega]
 exact e1
def sumDev (l : List (List Int)) (n : List S81) : Int := sumByteSS l + sumWrS n
theorem szDev_big (l : List (List Int)) (n : List S81) (f : Int) (d : Bool) (a : Int) (hl : goodByteSS l) (hg : goodWrS n) (h0 : 0 ≤ a) (h1 : a ≤ 1048576) (h : a < sumDev l n) : Ev (fun k => laws_szDev.f k l n f d a) (-1) := by
 have u := sumByteSS_pos l
 unfold sumDev at h
 by_cases c : a < sumByteSS l
 ·obtain ⟨K, e⟩ := szByteSS_big l a hl h0 h1 c
  refine ⟨K, fun k hk => ?_⟩
  have e1 := e k hk
  simp only at e1
  simp only [laws_szDev.f, e1, Option.bind_some]
  rfl
 ·obtain ⟨K0, e0⟩ := szByteSS_fit l a hl h0 h1 c
  obtain ⟨K, e⟩ := szWrS_big n (a - sumByteSS l) hg (by omega) (by omega) (by omega)
  refine ⟨K + K0, fun k hk => ?_⟩
  have e1 := e k (by omega)
  have e2 := e0 k (by omega)
  simp only at e1 e2
  simp only [laws_szDev.f, e2, Option.bind_some, e1]
  rw [if_neg (by omega)]
  rfl
theorem szDev_fit (l : List (List Int)) (n : List S81) (f : Int) (d : Bool) (a : Int) (hl : goodByteSS l) (hg : goodWrS n) (h0 : 0 ≤ a) (h1 : a ≤ 1048576) (h : ¬ a < sumDev l n) : Ev (fun k => laws_szDev.f k l n f d a) (a - sumDev l n) := by
 have u := sumByteSS_pos l
 have u2 := sumWrS_pos n
 unfold sumDev at h
 obtain ⟨K0, e0⟩ := szByteSS_fit l a hl h0 h1 (by omega)
 obtain ⟨K, e⟩ := szWrS_fit n (a - sumByteSS l) hg (by omega) (by omega) (by omega)
 refine ⟨K + K0, fun k hk => ?_⟩
 have e1 := e k (by omega)
 have e2 := e0 k (by omega)
 simp only at e1 e2
 simp only [laws_szDev.f, e2, Option.bind_some, e1]
 rw [if_neg (by omega), if_neg (by omega)]
 unfold sumDev
 congr 1
 omega
theorem toByteS_ev (l : List Int) (hi : inByteS l) : Ev (fun k => laws_toByteS.f k l) l := by
 have h : l.length ≤ 1048576 := hi
 have hl : ∀ i, i ≤ l.length → (fill (fun i => l.getD i 0) (List.replicate l.length (0 : Int)) i).length = l.length := fun i hi => by rw [fill_length _ _ _ (by simpa using hi)]; simp
 obtain ⟨K, hk⟩ := evRange0 (σ := List Int) l.length (fun k s i => laws_toByteS.l0 k l s i) (fun i s => s = fill (fun i => l.getD i 0) (List.replicate l.length (0 : Int)) i) (fun _ _ => l) (List.replicate l.length (0 : Int)) (fill_zero _ _).symm
  (by
   intro i s hi hs
   subst hs
   refine .inl ⟨_, rfl, rfl, 0, 1, fun k _ => ?_⟩
   have h1 := hl i (by omega)
   simp only [laws_toByteS.l0]
   rw [if_pos (by omega), if_pos (by omega), if_pos (by omega), w64s i (by omega), Int.toNat_natCast, fill_set _ _ _ (by simpa using hi) (rd_nat l i)])
  (by
   intro s hs
   subst hs
   refine ⟨0, 1, fun k _ => ?_⟩
   simp only [laws_toByteS.l0]
   rw [if_neg (by omega)]
   have := fill_all (fun i => l.getD i 0) (List.replicate l.length (0 : Int))
   rw [List.length_replicate] at this
   rw [this, range_id])
 refine ⟨K, fun k hk' => ?_⟩
 simp only [laws_toByteS.f]
 rw [if_pos (by omega), if_pos (by omega)]
 have e := hk k hk'
 simpa using e
theorem toByteSS_ev (l : List (List Int)) (hin : inByteSS l) : Ev (fun k => laws_toByteSS.f k l) (convByteSS l) := by
 have h := inByteSS_len hin
 have hl : ∀ i, i ≤ l.length → (fill (fun i => (l.getD i [])) (List.replicate l.length ([] : List Int)) i).length = l.length := fun i hi => by rw [fill_length _ _ _ (by simpa using hi)]; simp
 obtain ⟨K, hk⟩ := evRange0 (σ := List (List Int)) l.length (fun k s i => laws_toByteSS.l0 k l s i) (fun i s => s = fill (fun i => (l.getD i [])) (List.replicate l.length ([] : List Int)) i) (fun _ _ => convByteSS l) (List.replicate l.length ([] : List Int)) (fill_zero _ _).symm
  (by
   intro i s hi hs
   subst hs
   have h1 := hl i (by omega)
   have hr : rd_L1 l (i : Int) = l.getD i [] := by simp [rd_L1]
   obtain ⟨K, e⟩ := toByteS_ev (l.getD i []) (inByteSS_at hin i hi)
   refine .inl ⟨_, rfl, rfl, K, 1, fun k hk => ?_⟩
   have e1 := e k hk
   simp only at e1
   simp only [laws_toByteSS.l0, hr, e1, Option.bind_some]
   rw [if_pos (by omega), if_pos (by omega), if_pos (by omega), w64s i (by omega), Int.toNat_natCast, fill_set _ _ _ (by simpa using hi) rfl])
  (by
   intro s hs
   subst hs
   refine ⟨0, 1, fun k _ => ?_⟩
   simp only [laws_toByteSS.l0]
   rw [if_neg (by omega)]
   have := fill_all (fun i => (l.getD i [])) (List.replicate l.length ([] : List Int))
   rw [List.length_replicate] at this
   rw [this, range_map (fun x => x) l []]
   rfl)
 refine ⟨K, fun k hk' => ?_⟩
 simp only [laws_toByteSS.f]
 rw [if_pos (by omega), if_pos (by omega)]
 have e := hk k hk'
 simp only [Int.toNat_natCast]
 exact e
theorem toWr_ev (n : Int) (l : List Int) (hi : inByteS l) : Ev (fun k => laws_toWr.f k n l) (n, l) := by
 obtain ⟨K, e⟩ := toByteS_ev l hi
 refine ⟨K, fun k hk => ?_⟩
 have e1 := e k hk
 simp only at e1
 simp only [laws_toWr.f, e1, Option.bind_some]
theorem toWrS_ev (l : List (S81)) (hin : inWrS l) : Ev (fun k => laws_toWrS.f k l) (convWrS l) := by
 have h := inWrS_len hin
 have hl : ∀ i, i ≤ l.length → (fill (fun i => (⟨(l.getD i z81).f0, (l.getD i z81).f1⟩ : S50)) (List.replicate l.length (z50 : S50)) i).length = l.length := fun i hi => by rw [fill_length _ _ _ (by simpa using hi)]; simp
 obtain ⟨K, hk⟩ := evRange0 (σ := List (S50)) l.length (fun k s i => laws_toWrS.l0 k l s i) (fun i s => s = fill (fun i => (⟨(l.getD i z81).f0, (l.getD i z81).f1⟩ : S50)) (List.replicate l.length (z50 : S50)) i) (fun _ _ => convWrS l) (List.replicate l.length (z50 : S50)) (fill_zero _ _).symm
  (by
   intro i s hi hs
   subst hs
   have h1 := hl i (by omega)
   have hr : rd_T81 l (i : Int) = l.getD i z81 := by simp [rd_T81]
   obtain ⟨K, e⟩ := toWr_ev (l.getD i z81).f0 (l.getD i z81).f1 (inWrS_at hin i hi)
   refine .inl ⟨_, rfl, rfl, K, 1, fun k hk => ?_⟩
   have e1 := e k hk
   simp only at e1
   simp only [laws_toWrS.l0, hr, e1, Option.bind_some]
   rw [if_pos (by omega), if_pos (by omega), if_pos (by omega), w64s i (by omega), Int.toNat_natCast, fill_set _ _ _ (by simpa using hi) rfl])
  (by
   intro s hs
   subst hs
   refine ⟨0, 1, fun k _ => ?_⟩
   simp only [laws_toWrS.l0]
   rw [if_neg (by omega)]
   have := fill_all (fun i => (⟨(l.getD i z81).f0, (l.getD i z81).f1⟩ : S50)) (List.replicate l.length (z50 : S50))
   rw [List.length_replicate] at this
   rw [this, range_map (fun x => (⟨x.f0, x.f1⟩ : S50)) l z81]
   rfl)
 refine ⟨K, fun k hk' => ?_⟩
 simp only [laws_toWrS.f]
 rw [if_pos (by omega), if_pos (by omega)]
 have e := hk k hk'
 simp only [Int.toNat_natCast]
 exact e
theorem toDev_ev (l : List (List Int)) (n : List S81) (f : Int) (d : Bool) (h1 : inByteSS l) (h2 : inWrS n) : Ev (fun k => laws_toDev.f k l n f d) (convByteSS l, convWrS n, f, d) := by
 obtain ⟨K, e⟩ := toByteSS_ev l h1
 obtain ⟨K2, e2⟩ := toWrS_ev n h2
 refine ⟨K + K2, fun k hk => ?_⟩
 have a1 := e k (by omega)
 have a2 := e2 k (by omega)
 simp only at a1 a2
 simp only [laws_toDev.f, a1, a2, Option.bind_some]
theorem spec_l1In_f (a b c : Int) : spec_l1In.f a b c = some (decide (b ≤ a ∧ a ≤ c)) := by
 unfold spec_l1In.f
 by_cases h : a ≥ b
 ·rw [if_pos h]; congr 1; rw [Bool.eq_iff_iff]; simp; omega
 ·rw [if_neg h]; congr 1; rw [Bool.eq_iff_iff]; simp; omega
def wrOkB (n : Nat) (x : S50) : Bool := decide (0 ≤ x.f0 ∧ x.f0 ≤ (n : Int) - 1) && decide ((x.f1.length : Int) ≤ 80)
def devOkB (s : List (List Int)) (c : List S50) (f : Int) : Bool :=
 allFrom (fun i => decide (((s.getD i []).length : Int) ≤ 80)) s.length 0 && (allFrom (fun i => wrOkB s.length (c.getD i z50)) c.length 0 && (decide (1 ≤ (s.length : Int) ∧ (s.length : Int) ≤ 60) && (decide ((c.length : Int) ≤ 60) && decide (-1 ≤ f ∧ f ≤ 1000))))
theorem spec_DevOk_ev (s : List (List Int)) (c : List S50) (f : Int) (d : Bool) (h1 : okByteSS s) (h2 : okWrS c) : Ev (fun k => spec_DevOk.f k s c f d) (devOkB s c f) := by
 have hs := okByteSS_len h1
 have hc := okWrS_len h2
 obtain ⟨K0, e0⟩ := evAll c.length (fun k i => spec_DevOk.l1 k i s c f d) (fun i => wrOkB s.length (c.getD i z50)) (decide (1 ≤ (s.length : Int) ∧ (s.length : Int) ≤ 60) && (decide ((c.length : Int) ≤ 60) && decide (-1 ≤ f ∧ f ≤ 1000)))
  (by
   intro i hi
   have hr : rd_T50 c (i : Int) = c.getD i z50 := by simp [rd_T50]
   refine ⟨0, 1, fun k _ => ?_⟩
   simp only [spec_DevOk.l1, hr, spec_l1In_f, Option.bind_some, wrOkB]
   rw [if_pos (by omega), if_pos (by omega), w64 (x := (s.length : Int) - 1) (by omega) (by omega), w64s i (by omega)]
   generalize c.getD i z50 = y at *
   by_cases q0 : 0 ≤ y.f0 ∧ y.f0 ≤ (s.length : Int) - 1
   ·simp only [decide_eq_true q0, Bool.true_and, if_true, decide_eq_true_eq]
    by_cases q : (y.f1.length : Int) > 80
    ·rw [if_pos q, if_neg (by omega)]
    ·rw [if_neg q, if_pos (by omega)]
   ·simp only [decide_eq_false q0, Bool.false_and, Bool.false_eq_true, if_false])
  (by
   refine ⟨0, 1, fun k _ => ?_⟩
   simp only [spec_DevOk.l1, spec_l1In_f, Option.bind_some]
   rw [if_neg (by omega)]
   cases decide (1 ≤ (s.length : Int) ∧ (s.length : Int) ≤ 60) with
   | false => simp only [Bool.false_and, Bool.false_eq_true, if_false]
   | true =>
    simp only [Bool.true_and, if_true]
    by_cases q : (c.length : Int) ≤ 60
    ·rw [if_pos q, decide_eq_true q, Bool.true_and]
    ·rw [if_neg q, decide_eq_false q, Bool.false_and]) 0 (Nat.zero_le _)
 have := evAll s.length (fun k i => spec_DevOk.l0 k i s c f d) (fun i => decide (((s.getD i []).length : Int) ≤ 80)) (allFrom (fun i => wrOkB s.length (c.getD i z50)) c.length 0 && (decide (1 ≤ (s.length : Int) ∧ (s.length : Int) ≤ 60) && (decide ((c.length : Int) ≤ 60) && decide (-1 ≤ f ∧ f ≤ 1000))))
  (by
   intro i hi
   have hr : rd_L1 s (i : Int) = s.getD i [] := by simp [rd_L1]
   refine ⟨0, 1, fun k _ => ?_⟩
   simp only [spec_DevOk.l0, hr, decide_eq_true_eq]
   rw [if_pos (by omega), if_pos (by omega), w64s i (by omega)]
   generalize s.getD i [] = y at *
   by_cases q : (y.length : Int) > 80
   ·rw [if_pos q, if_neg (by omega)]
   ·rw [if_neg q, if_pos (by omega)])
  (by
   refine ⟨K0, 1, fun k hk => ?_⟩
   have e1 := e0 k hk
   simp only [spec_DevOk.l0]
   rw [if_neg (by omega)]
   exact e1) 0 (Nat.zero_le _)
 obtain ⟨K, hk⟩ := this
 exact ⟨K, fun k hk' => hk k hk'⟩
theorem spec_l2Copy_ev (s : List (List Int)) (c : List S50) (f : Int) (d : Bool) (h1 : okByteSS s) (h2 : okWrS c) : Ev (fun k => spec_l2Copy.f k s c f d) (s, c, f, d) := by
 have hs := okByteSS_len h1
 have hc := okWrS_len h2
 obtain ⟨K1, e1⟩ := evRange0 (σ := List S50) c.length (fun k x i => spec_l2Copy.l1 k i s c f d s x f d) (fun i x => x = c.take i) (fun _ _ => (s, c, f, d)) [] rfl
  (by
   intro i x hi hx
   subst hx
   have hr : rd_T50 c (i : Int) = c.getD i z50 := by simp [rd_T50]
   have hl := okWrS_at h2 i hi
   unfold okByteS at hl
   refine .inl ⟨_, rfl, rfl, 0, 1, fun k _ => ?_⟩
   simp only [spec_l2Copy.l1, hr, Option.bind_some]
   rw [take_getD c i z50 hi]
   generalize c.getD i z50 = y at *
   rw [if_pos (by omega), if_pos (by omega), if_pos (by simp only [List.length_nil]; omega), if_pos (by rw [List.length_take]; omega), w64s i (by omega), List.nil_append])
  (by
   intro x hx
   subst hx
   refine ⟨0, 1, fun k _ => ?_⟩
   simp only [spec_l2Copy.l1]
   rw [if_neg (by omega), List.take_length])
 obtain ⟨K0, e0⟩ := evRange0 (σ := List (List Int)) s.length (fun k x i => spec_l2Copy.l0 k i s c f d x f d) (fun i x => x = s.take i) (fun _ _ => (s, c, f, d)) [] rfl
  (by
   intro i x hi hx
   subst hx
   have hr : rd_L1 s (i : Int) = s.getD i [] := by simp [rd_L1]
   have hl := okByteSS_at h1 i hi
   unfold okByteS at hl
   refine .inl ⟨_, rfl, rfl, 0, 1, fun k _ => ?_⟩
   simp only [spec_l2Copy.l0, hr, Option.bind_some]
   rw [take_getD s i [] hi]
   generalize s.getD i [] = y at *
   rw [if_pos (by omega), if_pos (by omega), if_pos (by simp only [List.length_nil]; omega), if_pos (by rw [List.length_take]; omega), w64s i (by omega), List.nil_append])
  (by
   intro x hx
   subst hx
   refine ⟨K1, 1, fun k hk => ?_⟩
   simp only [spec_l2Copy.l0]
   rw [if_neg (by omega), List.take_length]
   exact e1 k hk)
 exact ⟨K0, fun k hk => e0 k hk⟩
def bitB (k : Int) (i : Nat) : Bool := decide (i < 30) && decide (Go.bits .and .i64 (shr .i64 k (i : Int)) 1 = 1)
def fallSecs (s : List (List Int)) (c : List S50) (k : Int) : Nat → List (List Int)
 | 0 => s
 | i + 1 => if bitB k i = true then (fallSecs s c k i).set (c.getD i z50).f0.toNat (c.getD i z50).f1 else fallSecs s c k i
theorem fallSecs_length (s : List (List Int)) (c : List S50) (k : Int) : ∀ i, (fallSecs s c k i).length = s.length
 | 0 => rfl
 | i + 1 => by
  unfold fallSecs
  split
  ·rw [List.length_set, fallSecs_length s c k i]
  ·exact fallSecs_length s c k i
theorem fallSecs_far (s : List (List Int)) (c : List S50) (k : Int) (i : Nat) (h : 30 ≤ i) : ∀ n, fallSecs s c k (i + n) = fallSecs s c k i
 | 0 => rfl
 | n + 1 => by
  show (if bitB k (i + n) = true then _ else fallSecs s c k (i + n)) = _
  unfold bitB
  rw [if_neg (by rw [decide_eq_false (show ¬ i + n < 30 by omega), Bool.false_and]; decide)]
  exact fallSecs_far s c k i h n
theorem devOk_wr {s : List (List Int)} {c : List S50} {f : Int} {i : Nat} (h : devOkB s c f = true) (hi : i < c.length) : 0 ≤ (c.getD i z50).f0 ∧ (c.getD i z50).f0 < (s.length : Int) := by
 unfold devOkB at h
 simp only [Bool.and_eq_true] at h
 have h2 := allFrom_iff.1 h.2.1 i (Nat.zero_le i) hi
 unfold wrOkB at h2
 simp only [Bool.and_eq_true, decide_eq_true_eq] at h2
 omega
def keepOf (k : Int) : Int := if 0 ≤ k ∧ k ≤ 1073741823 then k else 0
def fallDev (s : List (List Int)) (c : List S50) (f : Int) (d : Bool) (k : Int) : List (List Int) × List S50 × Int × Bool := if devOkB s c f = true then (fallSecs s c (keepOf k) c.length, [], -1, false) else (s, c, f, d)
theorem bulkByteSS_set : ∀ (l : List (List Int)) (i : Nat) (x : List Int), bulkByteSS (l.set i x) ≤ bulkByteSS l + x.length
 | [], i, x => by simp [bulkByteSS]
 | y :: ys, 0, x => by simp only [lB, bulkByteSS]; omega
 | y :: ys, i + 1, x => by
  have := bulkByteSS_set ys i x
  simp only [lC, bulkByteSS]
  omega
theorem bulkWrS_take (c : List S50) : ∀ i, i < c.length → bulkWrS (c.take i) + (c.getD i z50).f1.length + 1 ≤ bulkWrS (c.take (i + 1)) := by
 induction c with
 | nil => intro i h; simp at h
 | cons y ys ih =>
  intro i h
  cases i with
  | zero => simp [bulkWrS]; omega
  | succ i =>
   have := ih i (by simpa using h)
   simp only [List.take_succ_cons, bulkWrS, List.getD_cons_succ]
   omega
theorem bulk_fallSecs (s : List (List Int)) (c : List S50) (k : Int) : ∀ i, i ≤ c.length → bulkByteSS (fallSecs s c k i) ≤ bulkByteSS s + bulkWrS (c.take i)
 | 0, _ => by simp [fallSecs]
 | i + 1, h => by
  have h1 := bulk_fallSecs s c k i (by omega)
  have h2 := bulkWrS_take c i (by omega)
  unfold fallSecs
  split
  ·have := bulkByteSS_set (fallSecs s c k i) (c.getD i z50).f0.toNat (c.getD i z50).f1
   omega
  ·omega
theorem fallDev_ok1 {s : List (List Int)} {c : List S50} (f : Int) (d : Bool) (k : Int) (h : bulkByteSS s + bulkWrS c ≤ 4194304) : okByteSS (fallDev s c f d k).1 := by
 unfold fallDev okByteSS
 split
 ·have := bulk_fallSecs s c (keepOf k) c.length (Nat.le_refl _)
  rw [List.take_length] at this
  simp only
  omega
 ·simp only
  omega
theorem fallDev_ok2 {s : List (List Int)} {c : List S50} (f : Int) (d : Bool) (k : Int) (h : okWrS c) : okWrS (fallDev s c f d k).2.1 := by
 unfold fallDev
 split
 ·simp [okWrS, bulkWrS]
 ·exact h
theorem spec_FallDev_ev (s : List (List Int)) (c : List S50) (f : Int) (d : Bool) (k : Int) (h1 : okByteSS s) (h2 : okWrS c) : Ev (fun n => spec_FallDev.f n s c f d k) (fallDev s c f d k) := by
 have hs := okByteSS_len h1
 have hc := okWrS_len h2
 obtain ⟨K1, e1⟩ := spec_l2Copy_ev s c f d h1 h2
 obtain ⟨K2, e2⟩ := spec_DevOk_ev s c f d h1 h2
 by_cases hd : devOkB s c f = true
 ·-- the loop
  have loop : ∀ q : Int, Ev (fun n => spec_FallDev.j0 n q s c f d) (fallSecs s c q c.length, [], -1, false) := by
   intro q
   obtain ⟨K, e⟩ := evRange0 (σ := List (List Int)) (min c.length 30) (fun n x i => spec_FallDev.l0 n q i x c f d) (fun i x => x = fallSecs s c q i) (fun _ _ => (fallSecs s c q c.length, [], -1, false)) s rfl
    (by
     intro i x hi hx
     subst hx
     have hr : rd_T50 c (i : Int) = c.getD i z50 := by simp [rd_T50]
     have hw := devOk_wr hd (show i < c.length by omega)
     have hu : IntKind.u64.wrap (i : Int) = (i : Int) := by rw [IntKind.wrap_u64]; omega
     have hl := fallSecs_length s c q i
     refine .inl ⟨_, rfl, rfl, 0, 2, fun n _ => ?_⟩
     simp only [spec_FallDev.l0]
     rw [if_pos (by omega)]
     simp only [spec_FallDev.j2, hr, hu]
     rw [decide_eq_true (show (i : Int) < 30 by omega), if_pos rfl, if_pos (by omega)]
     show _ = spec_FallDev.l0 n q _ (if bitB q i = true then _ else _) c f d
     unfold bitB
     rw [decide_eq_true (show i < 30 by omega), Bool.true_and]
     generalize c.getD i z50 = y at *
     by_cases hb : Go.bits .and .i64 (shr .i64 q (i : Int)) 1 = 1
     ·rw [if_pos hb, if_pos (by omega), if_pos (by omega), if_pos (by omega), if_pos (by omega), w64s i (by omega), if_pos (decide_eq_true hb)]
     ·rw [if_neg hb, w64s i (by omega), if_neg (by rw [decide_eq_false hb]; decide)])
    (by
     intro x hx
     subst hx
     refine ⟨0, 2, fun n _ => ?_⟩
     simp only [spec_FallDev.l0]
     have hend : fallSecs s c q (min c.length 30) = fallSecs s c q c.length := by
      by_cases h30 : c.length ≤ 30
      ·rw [Nat.min_eq_left h30]
      ·rw [Nat.min_eq_right (by omega), show c.length = 30 + (c.length - 30) by omega, fallSecs_far s c q 30 (Nat.le_refl _)]
     by_cases hl : ((min c.length 30 : Nat) : Int) < (c.length : Int)
     ·rw [if_pos hl]
      simp only [spec_FallDev.j2]
      rw [decide_eq_false (by omega), if_neg (by decide), hend]
     ·rw [if_neg hl]
      simp only [spec_FallDev.j2]
      rw [if_neg (by decide), hend])
   refine ⟨K + 1, fun n hn => ?_⟩
   obtain ⟨m, rfl⟩ : ∃ m, n = m + 1 := ⟨n - 1, by omega⟩
   show spec_FallDev.j0 (m + 1) q s c f d = _
   simp only [spec_FallDev.j0]
   exact e m (by omega)
  obtain ⟨K3, e3⟩ := loop (keepOf k)
  refine ⟨K1 + K2 + K3, fun n hn => ?_⟩
  have a1 : spec_l2Copy.f n s c f d = some (s, c, f, d) := e1 n (by omega)
  have a2 : spec_DevOk.f n s c f d = some true := by rw [← hd]; exact e2 n (by omega)
  have a3 : spec_FallDev.j0 n (keepOf k) s c f d = some (fallSecs s c (keepOf k) c.length, [], -1, false) := e3 n (by omega)
  show spec_FallDev.f n s c f d k = some (fallDev s c f d k)
  unfold spec_FallDev.f fallDev
  simp only [a1, a2, spec_l1In_f, Option.bind_some, if_true, hd]
  unfold keepOf at a3 ⊢
  by_cases hk : 0 ≤ k ∧ k ≤ 1073741823
  ·rw [if_pos hk] at a3 ⊢
   rw [decide_eq_true hk, if_pos rfl]
   exact a3
  ·rw [if_neg hk] at a3 ⊢
   rw [decide_eq_false hk, if_neg (by decide)]
   exact a3
 ·refine ⟨K1 + K2, fun n hn => ?_⟩
  have a1 : spec_l2Copy.f n s c f d = some (s, c, f, d) := e1 n (by omega)
  have hd' : devOkB s c f = false := by simpa using hd
  have a2 : spec_DevOk.f n s c f d = some false := by rw [← hd']; exact e2 n (by omega)
  show spec_FallDev.f n s c f d k = some (fallDev s c f d k)
  unfold spec_FallDev.f fallDev
  simp only [a1, a2, Option.bind_some, hd', Bool.false_eq_true, if_false]
theorem impl_within_f (a b c : Int) : impl_within.f a b c = some (decide (b ≤ a ∧ a ≤ c)) := by
 unfold impl_within.f
 by_cases h : a ≥ b
 ·rw [if_pos h]; congr 1; rw [Bool.eq_iff_iff]; simp; omega
 ·rw [if_neg h]; congr 1; rw [Bool.eq_iff_iff]; simp; omega
theorem impl_DevOk_ev (s : List (List Int)) (c : List S50) (f : Int) (d : Bool) (h1 : okByteSS s) (h2 : okWrS c) : Ev (fun k => impl_DevOk.f k s c f d) (devOkB s c f) := by
 have hs := okByteSS_len h1
 have hc := okWrS_len h2
 obtain ⟨K0, e0⟩ := evAll c.length (fun k i => impl_DevOk.l1 k c (c.length : Int) i s c f d) (fun i => wrOkB s.length (c.getD i z50)) true
  (by
   intro i hi
   have hr : rd_T50 c (i : Int) = c.getD i z50 := by simp [rd_T50]
   refine ⟨0, 1, fun k _ => ?_⟩
   simp only [impl_DevOk.l1, hr, impl_within_f, Option.bind_some, wrOkB]
   rw [if_pos (by omega), if_pos (by omega), if_pos (by omega), w64 (x := (s.length : Int) - 1) (by omega) (by omega), w64s i (by omega)]
   generalize c.getD i z50 = y at *
   by_cases q0 : 0 ≤ y.f0 ∧ y.f0 ≤ (s.length : Int) - 1
   ·simp only [decide_eq_true q0, Bool.true_and, if_true, decide_eq_true_eq]
    by_cases q : (y.f1.length : Int) > 80
    ·rw [if_pos q, if_neg (by omega)]
    ·rw [if_neg q, if_pos (by omega)]
   ·simp only [decide_eq_false q0, Bool.false_and, Bool.false_eq_true, if_false])
  (by
   refine ⟨0, 1, fun k _ => ?_⟩
   simp only [impl_DevOk.l1]
   rw [if_neg (by omega)]) 0 (Nat.zero_le _)
 obtain ⟨K, e⟩ := evAll s.length (fun k i => impl_DevOk.l0 k s (s.length : Int) i s c f d) (fun i => decide (((s.getD i []).length : Int) ≤ 80)) (allFrom (fun i => wrOkB s.length (c.getD i z50)) c.length 0)
  (by
   intro i hi
   have hr : rd_L1 s (i : Int) = s.getD i [] := by simp [rd_L1]
   refine ⟨0, 1, fun k _ => ?_⟩
   simp only [impl_DevOk.l0, hr, decide_eq_true_eq]
   rw [if_pos (by omega), if_pos (by omega), if_pos (by omega), w64s i (by omega)]
   generalize s.getD i [] = y at *
   by_cases q : (y.length : Int) > 80
   ·rw [if_pos q, if_neg (by omega)]
   ·rw [if_neg q, if_pos (by omega)])
  (by
   refine ⟨K0, 1, fun k hk => ?_⟩
   have e1 := e0 k hk
   simp only [Bool.and_true] at e1
   simp only [impl_DevOk.l0]
   rw [if_neg (by omega)]
   exact e1) 0 (Nat.zero_le _)
 refine evSucc ⟨K, 1, fun k hk => ?_⟩
 have e1 : impl_DevOk.l0 k s (s.length : Int) 0 s c f d = _ := e k hk
 simp only [impl_DevOk.f, impl_within_f, Option.bind_some, impl_DevOk.j0, e1, devOkB]
 cases q1 : decide (1 ≤ (s.length : Int) ∧ (s.length : Int) ≤ 60) with
 | false => simp
 | true =>
  simp only [if_true, Bool.true_and]
  by_cases q2 : (c.length : Int) > 60
  ·rw [if_pos q2, decide_eq_false (by omega)]; simp
  ·rw [if_neg q2, decide_eq_true (show (c.length : Int) ≤ 60 by omega)]
   cases decide (-1 ≤ f ∧ f ≤ 1000) <;> simp
theorem impl_joined_ev (ls : List (List Int)) (h : ls.flatten.length ≤ 4194304) (h2 : ls.length ≤ 4194304) : Ev (fun k => impl_joined.f k ls) ls.flatten := by
 obtain ⟨K, hk⟩ := evRange0 (σ := List Int) ls.length (fun k s i => impl_joined.l0 k s ls (ls.length : Int) i) (fun i s => s ++ (ls.drop i).flatten = ls.flatten) (fun _ _ => ls.flatten) [] (by simp)
  (by
   intro i s hi hs
   have hd := drop_getD ls i [] hi
   have hr : rd_L1 ls (i : Int) = ls.getD i [] := by simp [rd_L1]
   rw [hd, List.flatten_cons] at hs
   generalize ls.getD i [] = y at *
   have hl : s.length + y.length ≤ 4194304 := by
    have := congrArg List.length hs
    simp only [List.length_append] at this
    omega
   refine .inl ⟨s ++ y, by rw [List.append_assoc]; exact hs, rfl, 0, 1, fun k _ => ?_⟩
   simp only [impl_joined.l0, hr]
   rw [if_pos (by omega), if_pos (by omega), if_pos (by omega), if_pos (by omega), w64s i (by omega)])
  (by
   intro s hs
   refine ⟨0, 1, fun k _ => ?_⟩
   simp only [impl_joined.l0]
   rw [if_neg (by omega)]
   simpa using hs)
 exact ⟨K, fun k hk' => hk k hk'⟩
end Go.Proofs.Ytilhcaofpfeioaa.Pure

namespace Go.Proofs.Ytilhcaofpfeioaa.Law
open Go.RowKit Go.Proofs.Ytilhcaofpfeioaa.PFnExactFallDev Go.Proofs.Ytilhcaofpfeioaa.Core Go.Proofs.YtilhcaofpfeioaaW.PrintWords Go.Proofs.YtilhcaofpfeioaaW.PrintLast Go.Proofs.YtilhcaofpfeioaaW.PrintMore Go.Proofs.Ytilhcaofpfeioaa.Pure
set_option linter.unusedSimpArgs false
set_option linter.unusedVariables false
def In2 (a b c d k : Nat) : Prop := In a b k ∨ In c d k
def Up (a b c k : Nat) : Prop := In a b k ∨ c ≤ k
theorem kept_grown {W w1 : World} {row : Option Nat} {S : Nat → Prop} (hg : W.grownBy w1 row) (h : ∀ k, row = some k → S k) : Kept W w1 S := ⟨hg.size, fun k hlt hn => hg.block k hlt (fun he => hn (h k he.symm))⟩
def rdR (xs : List (List Int)) (i : Int) : List Int := xs.getD i.toNat []
def rdW (xs : List (S50)) (i : Int) : S50 := xs.getD i.toNat z50
theorem F_row {e n : Nat} {W : World} {ok : Nat → Prop} {A : Option Addr} {xs : List (List Int)} (h : Kd.F (Kd.slice e (Kd.int .u8)) W ok A n xs) (i : Int) (h0 : 0 ≤ i) (h1 : i < n) :
  ∃ ad A' c', A = some ad ∧ W.cell? (ad.add i.toNat) = some (.slice A' (rdR xs i).length c') ∧ (rdR xs i).length ≤ c' ∧ Kd.F (Kd.int .u8) W ok A' (rdR xs i).length (rdR xs i) := by
 obtain ⟨ad, c, e_, _, hK, hcc, _⟩ := Kd.F_get h [] i h0 h1
 obtain ⟨A', c', rfl, hl, hf⟩ := Kd.FK_slice_open hK
 exact ⟨ad, A', c', e_, by have := hcc 0 _ rfl; rwa [show (Kd.slice e (Kd.int .u8)).sz = 1 from rfl, Nat.mul_one, Nat.add_zero] at this, hl, hf⟩
theorem F_wr {n : Nat} {W : World} {ok : Nat → Prop} {A : Option Addr} {xs : List (S50)} (h : Kd.F k50 W ok A n xs) (i : Int) (h0 : 0 ≤ i) (h1 : i < n) :
  ∃ ad A' c', A = some ad ∧ W.cell? (ad.add (i.toNat * 2)) = some (.int .i64 (rdW xs i).f0) ∧ W.cell? ⟨(ad.add (i.toNat * 2)).block, (ad.add (i.toNat * 2)).off + 1, none⟩ = some (.slice A' (rdW xs i).f1.length c') ∧ (rdW xs i).f1.length ≤ c' ∧ Kd.F (Kd.int .u8) W ok A' (rdW xs i).f1.length (rdW xs i).f1 := by
 obtain ⟨ad, c, e_, _, hK, hcc0, _⟩ := Kd.F_get h z50 i h0 h1
 have hcc : ∀ j u, c[j]? = some u → W.cell? (ad.add (i.toNat * 2 + j)) = some u := hcc0
 obtain ⟨A', c', rfl, hl, hf⟩ := k50_openF hK
 exact ⟨ad, A', c', e_, hcc 0 _ rfl, by rw [← add_field _ _ 1 (by omega)]; exact hcc 1 _ rfl, hl, hf⟩
theorem joined1 (E : List Int) (h : E.length ≤ 4194304) : ∃ k, impl_joined.f k ([E] : List (List Int)) = some E := evGet (by have := impl_joined_ev [E] (by simpa using h) (by simp); simpa using this)
theorem getS_len {s : List (List Int)} (h : okByteSS s) (i : Nat) : (s.getD i []).length ≤ 4194304 := by
 by_cases c : i < s.length
 ·exact okByteSS_at h i c
 ·rw [List.getD_eq_getElem?_getD, List.getElem?_eq_none (by omega)]; simp
theorem getW_len {s : List (S50)} (h : okWrS s) (i : Nat) : (s.getD i z50).f1.length ≤ 4194304 := by
 by_cases c : i < s.length
 ·exact okWrS_at h i c
 ·rw [List.getD_eq_getElem?_getD, List.getElem?_eq_none (by omega)]; simp [z50]
def okDevB (l : List (List Int)) (m : List (S50)) : Bool := decide (bulkByteSS l ≤ 4194304) && decide (bulkWrS m ≤ 4194304)
theorem new_SI2 {α : Type} {d : Kd α} {e base lo hi : Nat} {w1 : World} {v : Value} {xs : List α} (h : Kd.S d e w1 base (In lo hi) v xs) : ∃ A c, v = .slice A xs.length c ∧ xs.length ≤ c ∧ Kd.F d w1 (In lo hi) A xs.length xs ∧ Kd.S d e w1 base (In lo hi) (.slice A xs.length c) xs := by
 obtain ⟨A, c, rfl, hl, _⟩ := Kd.S_reads h
 exact ⟨A, c, rfl, hl, Kd.S_F h, h⟩
theorem devOk_at {s : List (List Int)} {c : List S50} {f x : Int} {i : Nat} (h : devOkB s c f = true) (hx : x = (i : Int)) (hi : i < c.length) : 0 ≤ (rdW c x).f0 ∧ (rdW c x).f0 < (s.length : Int) := by
 subst hx
 unfold devOkB at h
 simp only [Bool.and_eq_true] at h
 have h2 := allFrom_iff.1 h.2.1 i (Nat.zero_le i) hi
 unfold wrOkB at h2
 simp only [Bool.and_eq_true, decide_eq_true_eq] at h2
 unfold rdW
 rw [Int.toNat_natCast]
 omega
set_option maxHeartbeats 8000000 in
set_option maxRecDepth 100000 in
theorem walk_copyDev (A0_0 : Option Addr) (c0_0 : Nat) (l0_0 : List (List (Int))) (A0_1 : Option Addr) (c0_1 : Nat) (l0_1 : List (S50)) (a0_2 : Int) (a0_3 : Bool) (w : World) (hf0_0 : Kd.F (Kd.slice 5 (Kd.int .u8)) w (In 0 w.heap.size) A0_0 l0_0.length l0_0) (hc0_0 : l0_0.length ≤ c0_0) (hf0_1 : Kd.F k50 w (In 0 w.heap.size) A0_1 l0_1.length l0_1) (hc0_1 : l0_1.length ≤ c0_1) (hok0 : okByteSS l0_0) (hok1 : okWrS l0_1) :
  Calls Try.prog 58 #[.agg #[.slice A0_0 l0_0.length c0_0, .slice A0_1 l0_1.length c0_1, .int .i64 a0_2, .bool a0_3]] w fun e w' => ∃ v0_ v1_ : Value, ∃ m_ : Nat, e = .returned (.agg #[v0_, v1_, .int .i64 a0_2, .bool a0_3]) ∧ w.heap.size ≤ m_ ∧ m_ ≤ w'.heap.size ∧ Kd.S (Kd.slice 5 (Kd.int .u8)) 37 w' w.heap.size (In w.heap.size m_) v0_ l0_0 ∧ Kd.S k50 50 w' w.heap.size (In m_ w'.heap.size) v1_ l0_1 ∧ Below w.heap.size w w' := by
 have hu25 := Try.underlying25
 have hu50 := Try.underlying50
 have HF0_0 := aC.mk hf0_0
 have HC0_0 := aC.mk hc0_0
 clear hf0_0 hc0_0
 have HF0_1 := aC.mk hf0_1
 have HC0_1 := aC.mk hc0_1
 clear hf0_1 hc0_1
 have HB := aC.mk (Below.refl w.heap.size w)
 have HORD := aC.mk (Nat.le_refl w.heap.size)
 have HT := aC.mk (Nat.le_refl w.heap.size)
 go_enter Try.func58, Try.ntmps58
 go_wp2_with (first | ((with_reducible refine bC (N := 1) rfl ?_); refine bB ?hg (N := 1) ?hd (cs := #[.slice A0_0 l0_0.length c0_0, .slice A0_1 l0_1.length c0_1, .int .i64 a0_2, .bool a0_3]) (t := 25) ?hr ?_; (case hd => rfl); (case hg => rfl); (case hr => first | (go_simp; done) | (go_simp; rfl)); intro gb1 hg_ w1 hbox hb; have hge_ : w.heap.size ≤ gb1 := (by rw [hg_]; exact HT.out); have hlt_ : gb1 + 1 ≤ w1.heap.size := bH hbox; have n0_ := aC.mk (Kd.aV HF0_0.out hb); have n1_ := aC.mk (Kd.aV HF0_1.out hb); have n2_ := aC.mk (aU HB.out hb); have n3_ := aC.mk (hbox); have n4_ := aC.mk (And.intro HORD.out (And.intro hge_ (Nat.le_succ gb1))); have n5_ := aC.mk (hlt_); (try clear HF0_0); (try clear HF0_1); (try clear HB); (try clear BK1); (try clear HORD); (try clear HT); have HF0_0 := n0_; have HF0_1 := n1_; have HB := n2_; have BK1 := n3_; have HORD := n4_; have HT := n5_; clear n0_ n1_ n2_ n3_ n4_ n5_; clear hb hbox hg_ hge_ hlt_; have hzgb1_0_1 : w1.cell? ⟨gb1, 0, none⟩ = some (.slice A0_0 l0_0.length c0_0) := (aD BK1.out 0).trans rfl; have hygb1_0_1 := aA BK1.out 0; have hzgb1_1_1 : w1.cell? ⟨gb1, 1, none⟩ = some (.slice A0_1 l0_1.length c0_1) := (aD BK1.out 1).trans rfl; have hygb1_1_1 := aA BK1.out 1; have hzgb1_2_1 : w1.cell? ⟨gb1, 2, none⟩ = some (.int .i64 a0_2) := (aD BK1.out 2).trans rfl; have hygb1_2_1 := aA BK1.out 2; have hzgb1_3_1 : w1.cell? ⟨gb1, 3, none⟩ = some (.bool a0_3) := (aD BK1.out 3).trans rfl; have hygb1_3_1 := aA BK1.out 3) | ((with_reducible refine bC (N := 2) rfl ?_); refine bB ?hg (N := 2) ?hd (cs := #[.slice none 0 0, .slice none 0 0, .int .i64 0, .bool false]) (t := 25) ?hr ?_; (case hd => rfl); (case hg => rfl); (case hr => first | (go_simp; done) | (go_simp; rfl)); intro gb2 hg_ w2 hbox hb; have hge_ : (gb1 + 1) ≤ gb2 := (by rw [hg_]; exact HT.out); have hlt_ : gb2 + 1 ≤ w2.heap.size := bH hbox; have n0_ := aC.mk (Kd.aV HF0_0.out hb); have n1_ := aC.mk (Kd.aV HF0_1.out hb); have n2_ := aC.mk (aT BK1.out hb); have n3_ := aC.mk (aU HB.out hb); have n4_ := aC.mk (hbox); have n5_ := aC.mk (And.intro HORD.out (And.intro hge_ (Nat.le_succ gb2))); have n6_ := aC.mk (hlt_); (try clear HF0_0); (try clear HF0_1); (try clear BK1); (try clear HB); (try clear BK2); (try clear HORD); (try clear HT); have HF0_0 := n0_; have HF0_1 := n1_; have BK1 := n2_; have HB := n3_; have BK2 := n4_; have HORD := n5_; have HT := n6_; clear n0_ n1_ n2_ n3_ n4_ n5_ n6_; clear hb hbox hg_ hge_ hlt_; have hzgb1_0_2 : w2.cell? ⟨gb1, 0, none⟩ = some (.slice A0_0 l0_0.length c0_0) := (aD BK1.out 0).trans rfl; have hygb1_0_2 := aA BK1.out 0; have hzgb1_1_2 : w2.cell? ⟨gb1, 1, none⟩ = some (.slice A0_1 l0_1.length c0_1) := (aD BK1.out 1).trans rfl; have hygb1_1_2 := aA BK1.out 1; have hzgb1_2_2 : w2.cell? ⟨gb1, 2, none⟩ = some (.int .i64 a0_2) := (aD BK1.out 2).trans rfl; have hygb1_2_2 := aA BK1.out 2; have hzgb1_3_2 : w2.cell? ⟨gb1, 3, none⟩ = some (.bool a0_3) := (aD BK1.out 3).trans rfl; have hygb1_3_2 := aA BK1.out 3; have hzgb2_0_2 : w2.cell? ⟨gb2, 0, none⟩ = some (.slice none 0 0) := (aD BK2.out 0).trans rfl; have hygb2_0_2 := aA BK2.out 0; have hzgb2_1_2 : w2.cell? ⟨gb2, 1, none⟩ = some (.slice none 0 0) := (aD BK2.out 1).trans rfl; have hygb2_1_2 := aA BK2.out 1; have hzgb2_2_2 : w2.cell? ⟨gb2, 2, none⟩ = some (.int .i64 0) := (aD BK2.out 2).trans rfl; have hygb2_2_2 := aA BK2.out 2; have hzgb2_3_2 : w2.cell? ⟨gb2, 3, none⟩ = some (.bool false) := (aD BK2.out 3).trans rfl; have hygb2_3_2 := aA BK2.out 3) | ((with_reducible refine bC (N := 3) rfl ?_); refine bB ?hg (N := 3) ?hd (cs := #[.slice none 0 0, .slice none 0 0, .int .i64 0, .bool false]) (t := 25) ?hr ?_; (case hd => rfl); (case hg => rfl); (case hr => first | (go_simp; done) | (go_simp; rfl)); intro gb3 hg_ w3 hbox hb; have hge_ : (gb2 + 1) ≤ gb3 := (by rw [hg_]; exact HT.out); have hlt_ : gb3 + 1 ≤ w3.heap.size := bH hbox; have n0_ := aC.mk (Kd.aV HF0_0.out hb); have n1_ := aC.mk (Kd.aV HF0_1.out hb); have n2_ := aC.mk (aT BK1.out hb); have n3_ := aC.mk (aT BK2.out hb); have n4_ := aC.mk (aU HB.out hb); have n5_ := aC.mk (hbox); have n6_ := aC.mk (And.intro HORD.out (And.intro hge_ (Nat.le_succ gb3))); have n7_ := aC.mk (hlt_); (try clear HF0_0); (try clear HF0_1); (try clear BK1); (try clear BK2); (try clear HB); (try clear BK3); (try clear HORD); (try clear HT); have HF0_0 := n0_; have HF0_1 := n1_; have BK1 := n2_; have BK2 := n3_; have HB := n4_; have BK3 := n5_; have HORD := n6_; have HT := n7_; clear n0_ n1_ n2_ n3_ n4_ n5_ n6_ n7_; clear hb hbox hg_ hge_ hlt_; have hzgb1_0_3 : w3.cell? ⟨gb1, 0, none⟩ = some (.slice A0_0 l0_0.length c0_0) := (aD BK1.out 0).trans rfl; have hygb1_0_3 := aA BK1.out 0; have hzgb1_1_3 : w3.cell? ⟨gb1, 1, none⟩ = some (.slice A0_1 l0_1.length c0_1) := (aD BK1.out 1).trans rfl; have hygb1_1_3 := aA BK1.out 1; have hzgb1_2_3 : w3.cell? ⟨gb1, 2, none⟩ = some (.int .i64 a0_2) := (aD BK1.out 2).trans rfl; have hygb1_2_3 := aA BK1.out 2; have hzgb1_3_3 : w3.cell? ⟨gb1, 3, none⟩ = some (.bool a0_3) := (aD BK1.out 3).trans rfl; have hygb1_3_3 := aA BK1.out 3; have hzgb2_0_3 : w3.cell? ⟨gb2, 0, none⟩ = some (.slice none 0 0) := (aD BK2.out 0).trans rfl; have hygb2_0_3 := aA BK2.out 0; have hzgb2_1_3 : w3.cell? ⟨gb2, 1, none⟩ = some (.slice none 0 0) := (aD BK2.out 1).trans rfl; have hygb2_1_3 := aA BK2.out 1; have hzgb2_2_3 : w3.cell? ⟨gb2, 2, none⟩ = some (.int .i64 0) := (aD BK2.out 2).trans rfl; have hygb2_2_3 := aA BK2.out 2; have hzgb2_3_3 : w3.cell? ⟨gb2, 3, none⟩ = some (.bool false) := (aD BK2.out 3).trans rfl; have hygb2_3_3 := aA BK2.out 3; have hzgb3_0_3 : w3.cell? ⟨gb3, 0, none⟩ = some (.slice none 0 0) := (aD BK3.out 0).trans rfl; have hygb3_0_3 := aA BK3.out 0; have hzgb3_1_3 : w3.cell? ⟨gb3, 1, none⟩ = some (.slice none 0 0) := (aD BK3.out 1).trans rfl; have hygb3_1_3 := aA BK3.out 1; have hzgb3_2_3 : w3.cell? ⟨gb3, 2, none⟩ = some (.int .i64 0) := (aD BK3.out 2).trans rfl; have hygb3_2_3 := aA BK3.out 2; have hzgb3_3_3 : w3.cell? ⟨gb3, 3, none⟩ = some (.bool false) := (aD BK3.out 3).trans rfl; have hygb3_3_3 := aA BK3.out 3) | ((with_reducible refine bR (t := 25) (p := 3) rfl ?_); refine bP (t := 25) (p := 3) (v := ?vo_w4) (w1 := ((((w3.setCell ⟨gb3, 0, none⟩ (.slice none 0 0)).setCell ⟨gb3, 1, none⟩ (.slice none 0 0)).setCell ⟨gb3, 2, none⟩ (.int .i64 a0_2)).setCell ⟨gb3, 3, none⟩ (.bool a0_3))) ?hg ?ho ?hn ?hr ?_; (case ho => rfl); (case hg => rfl); (case hn => rfl); (case hr => first | (go_simp; done) | (go_simp; rfl)); intro w4 hw_; have hkp : Kept w3 w4 (fun k_ => k_ = gb3) := (by rw [hw_]; exact Kept.setCell (Kept.setCell (Kept.setCell (Kept.setCell (Kept.refl w3 (fun k_ => k_ = gb3)) (.inl rfl) (.slice none 0 0)) (.inl rfl) (.slice none 0 0)) (.inl rfl) (.int .i64 a0_2)) (.inl rfl) (.bool a0_3)); have hge_ : w.heap.size ≤ gb3 := (by have o_ := HORD.out; (try unfold In at *); (try show _ ≠ _); omega); have hbn_ : Below w.heap.size w w4 := (by rw [hw_]; exact aG (aG (aG (aG (HB.out) hge_) hge_) hge_) hge_); have hbk_ : w4.heap[gb3]? = some (.cells #[.slice none 0 0, .slice none 0 0, .int .i64 a0_2, .bool a0_3] 25 (0, 0)) := (by rw [hw_]; exact aZ (cs := #[.slice none 0 0, .slice none 0 0, .int .i64 a0_2, .bool false]) (cs' := #[.slice none 0 0, .slice none 0 0, .int .i64 a0_2, .bool a0_3]) (aZ (cs := #[.slice none 0 0, .slice none 0 0, .int .i64 0, .bool false]) (cs' := #[.slice none 0 0, .slice none 0 0, .int .i64 a0_2, .bool false]) (aZ (cs := #[.slice none 0 0, .slice none 0 0, .int .i64 0, .bool false]) (cs' := #[.slice none 0 0, .slice none 0 0, .int .i64 0, .bool false]) (aZ (cs := #[.slice none 0 0, .slice none 0 0, .int .i64 0, .bool false]) (cs' := #[.slice none 0 0, .slice none 0 0, .int .i64 0, .bool false]) (BK3.out) 0 _ rfl) 1 _ rfl) 2 _ rfl) 3 _ rfl); have hsz_ : (gb3 + 1) ≤ w4.heap.size := Nat.le_trans HT.out hkp.1; have n0_ := aC.mk (Kd.aY HF0_0.out hkp (fun k_ h1_ h2_ => by have o_ := HORD.out; have t_ := HT.out; (try simp only [In2, Up, In] at h1_ h2_); omega)); have n1_ := aC.mk (Kd.aY HF0_1.out hkp (fun k_ h1_ h2_ => by have o_ := HORD.out; have t_ := HT.out; (try simp only [In2, Up, In] at h1_ h2_); omega)); have n2_ := aC.mk (bA BK1.out hkp (fun h2_ => by have o_ := HORD.out; have t_ := HT.out; (try simp only [In2, Up, In] at h2_); omega)); have n3_ := aC.mk (bA BK2.out hkp (fun h2_ => by have o_ := HORD.out; have t_ := HT.out; (try simp only [In2, Up, In] at h2_); omega)); have n4_ := aC.mk (hbn_); have n5_ := aC.mk (hbk_); have n6_ := aC.mk (hsz_); (try clear HF0_0); (try clear HF0_1); (try clear BK1); (try clear BK2); (try clear HB); (try clear BK3); (try clear HT); have HF0_0 := n0_; have HF0_1 := n1_; have BK1 := n2_; have BK2 := n3_; have HB := n4_; have BK3 := n5_; have HT := n6_; clear n0_ n1_ n2_ n3_ n4_ n5_ n6_; clear hw_ hkp hge_ hbn_ hbk_ hsz_; have hzgb1_0_4 : w4.cell? ⟨gb1, 0, none⟩ = some (.slice A0_0 l0_0.length c0_0) := (aD BK1.out 0).trans rfl; have hygb1_0_4 := aA BK1.out 0; have hzgb1_1_4 : w4.cell? ⟨gb1, 1, none⟩ = some (.slice A0_1 l0_1.length c0_1) := (aD BK1.out 1).trans rfl; have hygb1_1_4 := aA BK1.out 1; have hzgb1_2_4 : w4.cell? ⟨gb1, 2, none⟩ = some (.int .i64 a0_2) := (aD BK1.out 2).trans rfl; have hygb1_2_4 := aA BK1.out 2; have hzgb1_3_4 : w4.cell? ⟨gb1, 3, none⟩ = some (.bool a0_3) := (aD BK1.out 3).trans rfl; have hygb1_3_4 := aA BK1.out 3; have hzgb2_0_4 : w4.cell? ⟨gb2, 0, none⟩ = some (.slice none 0 0) := (aD BK2.out 0).trans rfl; have hygb2_0_4 := aA BK2.out 0; have hzgb2_1_4 : w4.cell? ⟨gb2, 1, none⟩ = some (.slice none 0 0) := (aD BK2.out 1).trans rfl; have hygb2_1_4 := aA BK2.out 1; have hzgb2_2_4 : w4.cell? ⟨gb2, 2, none⟩ = some (.int .i64 0) := (aD BK2.out 2).trans rfl; have hygb2_2_4 := aA BK2.out 2; have hzgb2_3_4 : w4.cell? ⟨gb2, 3, none⟩ = some (.bool false) := (aD BK2.out 3).trans rfl; have hygb2_3_4 := aA BK2.out 3; have hzgb3_0_4 : w4.cell? ⟨gb3, 0, none⟩ = some (.slice none 0 0) := (aD BK3.out 0).trans rfl; have hygb3_0_4 := aA BK3.out 0; have hzgb3_1_4 : w4.cell? ⟨gb3, 1, none⟩ = some (.slice none 0 0) := (aD BK3.out 1).trans rfl; have hygb3_1_4 := aA BK3.out 1; have hzgb3_2_4 : w4.cell? ⟨gb3, 2, none⟩ = some (.int .i64 a0_2) := (aD BK3.out 2).trans rfl; have hygb3_2_4 := aA BK3.out 2; have hzgb3_3_4 : w4.cell? ⟨gb3, 3, none⟩ = some (.bool a0_3) := (aD BK3.out 3).trans rfl; have hygb3_3_4 := aA BK3.out 3))
 go_loopg [16] (l0_0.length) (fun kq  v5 w' => ∃ (i5 : Nat) (x5 : Int) (u5 : Value), v5 = .int .i64 x5 ∧ aC (x5 = (i5 : Int)) ∧ aC (i5 + kq = l0_0.length) ∧ aC ((gb3 + 1) ≤ w'.heap.size) ∧ aC (Kd.S (Kd.slice 5 (Kd.int .u8)) 37 w' w.heap.size (Up 0 0 (gb3 + 1)) u5 (l0_0.take i5)) ∧ aC (Kd.F (Kd.slice 5 (Kd.int .u8)) w' (In 0 w.heap.size) A0_0 l0_0.length l0_0) ∧ aC (Kd.F k50 w' (In 0 w.heap.size) A0_1 l0_1.length l0_1) ∧ aC (w'.heap[gb1]? = some (.cells #[.slice A0_0 l0_0.length c0_0, .slice A0_1 l0_1.length c0_1, .int .i64 a0_2, .bool a0_3] 25 (0, 0))) ∧ aC (w'.heap[gb2]? = some (.cells #[.slice none 0 0, .slice none 0 0, .int .i64 0, .bool false] 25 (0, 0))) ∧ aC (w'.heap[gb3]? = some (.cells #[u5, .slice none 0 0, .int .i64 a0_2, .bool a0_3] 25 (0, 0))) ∧ aC (Below w.heap.size w w'))
 case atStart => exact ⟨0, 0, _, rfl, ⟨rfl⟩, ⟨Nat.zero_add _⟩, HT, ⟨by rw [show l0_0.take 0 = [] from rfl]; exact Kd.S_nil _ _ _ _ _⟩, HF0_0, HF0_1, BK1, BK2, BK3, HB⟩
 clear HF0_0 HF0_1 BK1 BK2 BK3 HB HT
 obtain ⟨i5, x5, u5, rfl, HI5, HK5, HT, HS5, HF0_0, HF0_1, BK1, BK2, BK3, HB⟩ := hrel
 obtain ⟨xs5, ex_⟩ : ∃ y_, y_ = l0_0.take i5 := ⟨_, rfl⟩
 rw [← ex_] at HS5
 have HX5 := aC.mk ex_
 clear ex_
 obtain ⟨A5, c5, ev_⟩ := Kd.S_slice HS5.out
 subst ev_
 obtain ⟨hi5, e2_⟩ : ∃ n_, n_ = wr.heap.size := ⟨_, rfl⟩
 have ol_ : (gb3 + 1) ≤ hi5 := (by rw [e2_]; exact HT.out)
 have hs_ := Kd.S_mono (ok' := In2 0 0 (gb3 + 1) hi5) (Kd.S_bound HS5.out) (fun k_ hk_ => by have h1_ := hk_.1; have h2_ := hk_.2.2.1; rw [← e2_] at h2_; (try simp only [In2, Up, In] at h1_ ⊢); omega)
 have n0_ := aC.mk (And.intro HORD.out ol_)
 have n1_ := aC.mk (Nat.le_of_eq e2_)
 clear HS5 HORD HT
 have HORD := n0_
 have HT := n1_
 have HS5 := aC.mk hs_
 have HF5 := aC.mk (Kd.S_F hs_)
 have HC5 := aC.mk (Kd.S_reads' hs_).2.1
 clear n0_ n1_ hs_ ol_ e2_
 rcases gk with _ | k1
 rotate_left
 ·have hp_ : 0 ≤ x5 := (by have := HI5.out; omega)
  have hq_ : x5 < (l0_0.length : Int) := (by have := HI5.out; have := HK5.out; omega)
  have hd_ : decide (x5 < (l0_0.length : Int)) = true := decide_eq_true hq_
  have hzgb1_0_5 : wr.cell? ⟨gb1, 0, none⟩ = some (.slice A0_0 l0_0.length c0_0) := (aD BK1.out 0).trans rfl
  have hygb1_0_5 := aA BK1.out 0
  have hzgb1_1_5 : wr.cell? ⟨gb1, 1, none⟩ = some (.slice A0_1 l0_1.length c0_1) := (aD BK1.out 1).trans rfl
  have hygb1_1_5 := aA BK1.out 1
  have hzgb1_2_5 : wr.cell? ⟨gb1, 2, none⟩ = some (.int .i64 a0_2) := (aD BK1.out 2).trans rfl
  have hygb1_2_5 := aA BK1.out 2
  have hzgb1_3_5 : wr.cell? ⟨gb1, 3, none⟩ = some (.bool a0_3) := (aD BK1.out 3).trans rfl
  have hygb1_3_5 := aA BK1.out 3
  have hzgb2_0_5 : wr.cell? ⟨gb2, 0, none⟩ = some (.slice none 0 0) := (aD BK2.out 0).trans rfl
  have hygb2_0_5 := aA BK2.out 0
  have hzgb2_1_5 : wr.cell? ⟨gb2, 1, none⟩ = some (.slice none 0 0) := (aD BK2.out 1).trans rfl
  have hygb2_1_5 := aA BK2.out 1
  have hzgb2_2_5 : wr.cell? ⟨gb2, 2, none⟩ = some (.int .i64 0) := (aD BK2.out 2).trans rfl
  have hygb2_2_5 := aA BK2.out 2
  have hzgb2_3_5 : wr.cell? ⟨gb2, 3, none⟩ = some (.bool false) := (aD BK2.out 3).trans rfl
  have hygb2_3_5 := aA BK2.out 3
  have hzgb3_0_5 : wr.cell? ⟨gb3, 0, none⟩ = some (.slice A5 xs5.length c5) := (aD BK3.out 0).trans rfl
  have hygb3_0_5 := aA BK3.out 0
  have hzgb3_1_5 : wr.cell? ⟨gb3, 1, none⟩ = some (.slice none 0 0) := (aD BK3.out 1).trans rfl
  have hygb3_1_5 := aA BK3.out 1
  have hzgb3_2_5 : wr.cell? ⟨gb3, 2, none⟩ = some (.int .i64 a0_2) := (aD BK3.out 2).trans rfl
  have hygb3_2_5 := aA BK3.out 2
  have hzgb3_3_5 : wr.cell? ⟨gb3, 3, none⟩ = some (.bool a0_3) := (aD BK3.out 3).trans rfl
  have hygb3_3_5 := aA BK3.out 3
  obtain ⟨ad6, Ae6, ce6, ee6, hx6_0, hl6, hf6⟩ := F_row HF0_0.out x5 hp_ hq_
  cases ee6
  have HF6 := aC.mk hf6
  have HC6 := aC.mk hl6
  clear hf6 hl6
  try go_wp2
  have n_ := aC.mk (Kd.F_drew HF0_0.out)
  clear HF0_0
  have HF0_0 := n_
  clear n_
  have n_ := aC.mk (Kd.F_drew HF0_1.out)
  clear HF0_1
  have HF0_1 := n_
  clear n_
  have n_ := aC.mk (Kd.F_drew HF5.out)
  clear HF5
  have HF5 := n_
  clear n_
  have n_ := aC.mk (Kd.S_drew HS5.out)
  clear HS5
  have HS5 := n_
  clear n_
  have n_ := aC.mk (Kd.F_drew HF6.out)
  clear HF6
  have HF6 := n_
  clear n_
  have n_ := aC.mk (aQ BK1.out)
  clear BK1
  have BK1 := n_
  clear n_
  have n_ := aC.mk (aQ BK2.out)
  clear BK2
  have BK2 := n_
  clear n_
  have n_ := aC.mk (aQ BK3.out)
  clear BK3
  have BK3 := n_
  clear n_
  have n_ := aC.mk (aH HB.out)
  clear HB
  have HB := n_
  clear n_
  have n_ := aC.mk (show _ ≤ wr.drew.heap.size from HT.out)
  clear HT
  have HT := n_
  clear n_
  refine start_ (n := 9) (S := fun w' => w'.cell? ⟨gb3, 0, none⟩ = some (.slice A5 xs5.length c5) ∧ w'.cell? ⟨gb3, 1, none⟩ = some (.slice none 0 0) ∧ w'.cell? ⟨gb3, 2, none⟩ = some (.int .i64 a0_2) ∧ w'.cell? ⟨gb3, 3, none⟩ = some (.bool a0_3)) (ds := [8]) #[false, false, false, false, false, false, false, false, false] (by kernel_rfl) rfl rfl ⟨(aD BK3.out 0).trans rfl, (aD BK3.out 1).trans rfl, (aD BK3.out 2).trans rfl, (aD BK3.out 3).trans rfl⟩ (fun hHeld => ?_)
  generalize wr.drew = w7 at HF0_0 HF0_1 HF5 HS5 HF6 BK1 BK2 BK3 HB HT hHeld ⊢
  refine pure_ (i := 0) (N := some 20) (v := ?_) (a' := ?_) #[true, false, false, false, false, false, false, false, false] rfl rfl (by kernel_rfl) (fun _ _ _ h => h) (Or.inl ⟨by rfl, ?_⟩) ?_ ?_
  rotate_left
  ·intro w'
   go_simp
   with_reducible rfl
  rotate_left
  ·simp only [Act.put, lA, lB, lC, bF, bE]
   rfl
  refine take_ (i := 1) (N := some 21) (v := ?_) (a' := ?_) #[true, true, false, false, false, false, false, false, false] rfl rfl (by kernel_rfl) (fun _ _ _ h => h) (Or.inl ⟨by rfl, ?_⟩) hHeld ?_ ?_
  rotate_left
  ·rintro w' ⟨s0, s1, s2, s3⟩
   go_simp
   with_reducible rfl
  rotate_left
  ·simp only [Act.put, lA, lB, lC, bF, bE]
   rfl
  refine pure_ (i := 2) (N := some 22) (v := ?_) (a' := ?_) #[true, true, true, false, false, false, false, false, false] rfl rfl (by kernel_rfl) (fun _ _ _ h => h) (Or.inl ⟨by rfl, ?_⟩) ?_ ?_
  rotate_left
  ·intro w'
   go_simp
   with_reducible rfl
  rotate_left
  ·simp only [Act.put, lA, lB, lC, bF, bE]
   rfl
  refine one_ (i := 3) (N := some 23) #[true, true, true, true, false, false, false, false, false] rfl rfl (by kernel_rfl) (by decide) (fun K hK => ?_)
  refine Kd.N_lit_step (Kd.slice 5 (Kd.int .u8)) _ 37 ?hg (N' := 23) ?hd (xs := ([(rdR l0_0 x5)] : List (List (Int)))) (inner := [.slice Ae6 ((rdR l0_0 x5)).length ce6]) (ok := (fun k_ => (In 0 w.heap.size) k_ ∨ hi5 ≤ k_)) (okp := (In 0 w.heap.size)) ?hr ?hp (fun _ hk => .inl hk) (.inr HT.out) (Below.refl _ _) (Nat.le_refl _) (by simp) ?_
  (case hd => rfl)
  (case hg => rfl)
  (case hr => first | (go_simp; done) | (go_simp; rfl))
  (case hp => exact (Reps.one (Kd.FK_slice_mk HC6.out HF6.out) (Reps.none _ _)))
  intro vl8 w8 ho_ hb hg_ hat_
  obtain ⟨A8, c8, ev_⟩ := Kd.N_slice ho_
  subst ev_
  have n0_ := aC.mk (Kd.aV HF0_0.out hb)
  have n1_ := aC.mk (Kd.aV HF0_1.out hb)
  have n2_ := aC.mk (Kd.aV HF5.out hb)
  have n3_ := aC.mk (Kd.bJ HS5.out hb)
  have n4_ := aC.mk (Kd.aV HF6.out hb)
  have n5_ := aC.mk (aT BK1.out hb)
  have n6_ := aC.mk (aT BK2.out hb)
  have n7_ := aC.mk (aT BK3.out hb)
  have n8_ := aC.mk (aU HB.out hb)
  have n9_ := aC.mk (Nat.le_trans HT.out hb.size)
  have n10_ := aC.mk (Kd.N_F ho_)
  have n11_ := aC.mk ((Kd.N_reads' ho_).2.1)
  (try clear HF0_0)
  (try clear HF0_1)
  (try clear HF5)
  (try clear HS5)
  (try clear HF6)
  (try clear BK1)
  (try clear BK2)
  (try clear BK3)
  (try clear HB)
  (try clear HT)
  (try clear HF8)
  (try clear HC8)
  have HF0_0 := n0_
  have HF0_1 := n1_
  have HF5 := n2_
  have HS5 := n3_
  have HF6 := n4_
  have BK1 := n5_
  have BK2 := n6_
  have BK3 := n7_
  have HB := n8_
  have HT := n9_
  have HF8 := n10_
  have HC8 := n11_
  clear n0_ n1_ n2_ n3_ n4_ n5_ n6_ n7_ n8_ n9_ n10_ n11_
  clear hb ho_ hg_ hat_
  refine hK.out _ _ ⟨(aD BK3.out 0).trans rfl, (aD BK3.out 1).trans rfl, (aD BK3.out 2).trans rfl, (aD BK3.out 3).trans rfl⟩ (fun hHeld => ?_)
  clear hK K
  refine norm_ (a' := ?_) ?_ ?_
  rotate_left
  ·show Act.put _ (some 23) _ = _
   simp only [Act.put, lA, lB, lC, bF, bE]
   rfl
  refine one_ (i := 4) (N := some 24) #[true, true, true, true, true, false, false, false, false] rfl rfl (by kernel_rfl) (by decide) (fun K hK => ?_)
  obtain ⟨kj10, hj_⟩ := joined1 ((rdR l0_0 x5)) (by first | exact getS_len hok0 _ | exact getW_len hok1 _)
  have J10 := aC.mk hj_
  clear hj_
  refine goes_ Try.func55 (by kernel_rfl) rfl #[.slice A8 (([(rdR l0_0 x5)] : List (List (Int)))).length c8] (by rfl) rfl rfl (by (try simp only [List.map_toArray, List.map_cons, List.map_nil]); first | done | rfl | (simp only [List.length_drop, List.length_take]; rfl)) ?_
  (with_reducible refine (impl_joined.calls kj10 _ _ (([(rdR l0_0 x5)] : List (List (Int)))) ((rdR l0_0 x5)) _ ?s1 ?s2 J10.out).mono ?_)
  (case s1 => exact (Kd.F_now HF8.out))
  (case s2 => exact HC8.out)
  rintro e_ w9 ⟨v0_, rfl, ho0, hb⟩
  refine ⟨_, rfl, ?_⟩
  obtain ⟨lo9, hi9, el_, eh_, ol_, oh_⟩ := Mem.times HT.out hb
  (try rw [← el_] at ho0)
  obtain ⟨A9_0, c9_0, ev_, hc0_, hf0_, hs0_⟩ := Mem.new_R ho0 eh_
  subst ev_
  have n0_ := aC.mk (Kd.aV HF0_0.out hb)
  have n1_ := aC.mk (Kd.aV HF0_1.out hb)
  have n2_ := aC.mk (Kd.aV HF5.out hb)
  have n3_ := aC.mk (Kd.bJ HS5.out hb)
  have n4_ := aC.mk (Kd.aV HF6.out hb)
  have n5_ := aC.mk (Kd.aV HF8.out hb)
  have n6_ := aC.mk (aT BK1.out hb)
  have n7_ := aC.mk (aT BK2.out hb)
  have n8_ := aC.mk (aT BK3.out hb)
  have n9_ := aC.mk (aU HB.out hb)
  have n10_ := aC.mk (hf0_)
  have n11_ := aC.mk (hc0_)
  have n12_ := aC.mk (hs0_)
  have n13_ := aC.mk (And.intro HORD.out (And.intro ol_ oh_))
  have n14_ := aC.mk (Nat.le_of_eq eh_)
  (try clear HF0_0)
  (try clear HF0_1)
  (try clear HF5)
  (try clear HS5)
  (try clear HF6)
  (try clear HF8)
  (try clear BK1)
  (try clear BK2)
  (try clear BK3)
  (try clear HB)
  (try clear HF9_0)
  (try clear HC9_0)
  (try clear HS9_0)
  (try clear HORD)
  (try clear HT)
  have HF0_0 := n0_
  have HF0_1 := n1_
  have HF5 := n2_
  have HS5 := n3_
  have HF6 := n4_
  have HF8 := n5_
  have BK1 := n6_
  have BK2 := n7_
  have BK3 := n8_
  have HB := n9_
  have HF9_0 := n10_
  have HC9_0 := n11_
  have HS9_0 := n12_
  have HORD := n13_
  have HT := n14_
  clear n0_ n1_ n2_ n3_ n4_ n5_ n6_ n7_ n8_ n9_ n10_ n11_ n12_ n13_ n14_
  clear ol_ oh_ el_ eh_ ho0 hf0_ hc0_ hs0_
  (try clear hb)
  refine hK.out _ _ ⟨(aD BK3.out 0).trans rfl, (aD BK3.out 1).trans rfl, (aD BK3.out 2).trans rfl, (aD BK3.out 3).trans rfl⟩ (fun hHeld => ?_)
  clear hK K
  refine norm_ (a' := ?_) ?_ ?_
  rotate_left
  ·show Act.put _ (some 24) _ = _
   simp only [Act.put, lA, lB, lC, bF, bE]
   rfl
  refine one_ (i := 5) (N := some 25) #[true, true, true, true, true, true, false, false, false] rfl rfl (by kernel_rfl) (by decide) (fun K hK => ?_)
  refine value_ (w1 := ?_) (v := ?_) (by rfl) rfl ?_ ?_
  rotate_left 2
  ·go_simp
   constructor
   ·rfl
   ·rfl
  refine hK.out _ _ ⟨(aD (aM BK3.out _) 0).trans rfl, (aD (aM BK3.out _) 1).trans rfl, (aD (aM BK3.out _) 2).trans rfl, (aD (aM BK3.out _) 3).trans rfl⟩ (fun hHeld => ?_)
  clear hK K
  refine norm_ (a' := ?_) ?_ ?_
  rotate_left
  ·show Act.put _ (some 25) _ = _
   simp only [Act.put, lA, lB, lC, bF, bE]
   rfl
  refine one_ (i := 6) (N := some 26) #[true, true, true, true, true, true, true, false, false] rfl rfl (by kernel_rfl) (by decide) (fun K hK => ?_)
  refine Kd.S_append_step (Kd.slice 5 (Kd.int .u8)) (w0 := w) w.heap.size (by rfl) (.tmp 21) (.tmp 25) 22 37 (.slice none 0 0) 24 rfl Try.underlying22 info37 rfl (by decide) (by omega) (.slice A5 xs5.length c5) xs5 ((rdR l0_0 x5)) [.slice A9_0 ((rdR l0_0 x5)).length c9_0] (Up 0 0 (gb3 + 1)) (In lo9 hi9) rfl rfl ?aP ?aK ?aF ?aO ?aB ?aS ?aL ?_
  (case aB => exact HB.out)
  (case aS => exact aW HB.out)
  (case aP => exact Kd.M_row (Kd.R_lower HS9_0.out (by have o_ := HORD.out; have t_ := HT.out; (try simp only [In2, Up, In] at *); omega)))
  (case aK => exact (fun k_ hk_ => ⟨(by have o_ := HORD.out; have t_ := HT.out; (try simp only [In2, Up, In] at hk_ ⊢); omega), (fun he_ => by have hz_ := (Kd.S_R HS5.out).1 k_ he_.symm; have o_ := HORD.out; have t_ := HT.out; (try simp only [In2, Up, In] at hk_ hz_); omega)⟩))
  (case aF => exact (fun k_ hk_ => by have o_ := HORD.out; have t_ := HT.out; (try simp only [In2, Up, In] at hk_ ⊢); omega))
  (case aO => exact Kd.S_mono (Kd.S_lower HS5.out (by have o_ := HORD.out; omega)) (fun k_ hk_ => ⟨(by have o_ := HORD.out; have t_ := HT.out; (try simp only [In2, Up, In] at hk_ ⊢); omega), (fun h2_ => by have o_ := HORD.out; have t_ := HT.out; (try simp only [In2, Up, In] at hk_ h2_); omega)⟩))
  (case aL => (have hl1_ := okByteSS_len hok0; have h3_ := congrArg List.length HX5.out; rw [List.length_take] at h3_; omega))
  intro v11 w11 ho_ hbn_ hg_ hat_
  obtain ⟨ys11, ey_⟩ : ∃ y_, y_ = xs5 ++ [(rdR l0_0 x5)] := ⟨_, rfl⟩
  rw [← ey_] at ho_
  have HY11 := aC.mk ey_
  clear ey_
  have hkp := kept_grown (S := (In2 0 0 (gb3 + 1) hi5)) hg_ (fun k_ he_ => (Kd.S_R HS5.out).1 k_ he_)
  obtain ⟨A11, c11, ev_⟩ := Kd.S_slice ho_
  subst ev_
  obtain ⟨hi11, e2_⟩ : ∃ n_, n_ = w11.heap.size := ⟨_, rfl⟩
  have ol_ : hi9 ≤ hi11 := (by rw [e2_]; exact Nat.le_trans HT.out hkp.1)
  have hs_ := Kd.S_mono (ok' := In2 0 0 (gb3 + 1) hi11) (Kd.S_bound ho_) (fun k_ hk_ => by have h1_ := hk_.1; have h2_ := hk_.2.2.1; rw [← e2_] at h2_; (try simp only [In2, Up, In] at h1_ ⊢); omega)
  have n0_ := aC.mk (Kd.aY HF0_0.out hkp (fun k_ h1_ h2_ => by have o_ := HORD.out; have t_ := HT.out; (try simp only [In2, Up, In] at h1_ h2_); omega))
  have n1_ := aC.mk (Kd.aY HF0_1.out hkp (fun k_ h1_ h2_ => by have o_ := HORD.out; have t_ := HT.out; (try simp only [In2, Up, In] at h1_ h2_); omega))
  have n2_ := aC.mk (Kd.aY HF6.out hkp (fun k_ h1_ h2_ => by have o_ := HORD.out; have t_ := HT.out; (try simp only [In2, Up, In] at h1_ h2_); omega))
  have n3_ := aC.mk (bA BK1.out hkp (fun h2_ => by have o_ := HORD.out; have t_ := HT.out; (try simp only [In2, Up, In] at h2_); omega))
  have n4_ := aC.mk (bA BK2.out hkp (fun h2_ => by have o_ := HORD.out; have t_ := HT.out; (try simp only [In2, Up, In] at h2_); omega))
  have n5_ := aC.mk (bA BK3.out hkp (fun h2_ => by have o_ := HORD.out; have t_ := HT.out; (try simp only [In2, Up, In] at h2_); omega))
  have n6_ := aC.mk (hbn_)
  have n7_ := aC.mk (And.intro HORD.out ol_)
  have n8_ := aC.mk (Nat.le_of_eq e2_)
  have n9_ := aC.mk (hs_)
  have n10_ := aC.mk (Kd.S_F hs_)
  have n11_ := aC.mk ((Kd.S_reads' hs_).2.1)
  (try clear HF0_0)
  (try clear HF0_1)
  (try clear HF6)
  (try clear BK1)
  (try clear BK2)
  (try clear BK3)
  (try clear HB)
  (try clear HORD)
  (try clear HT)
  (try clear HS11)
  (try clear HF11)
  (try clear HC11)
  have HF0_0 := n0_
  have HF0_1 := n1_
  have HF6 := n2_
  have BK1 := n3_
  have BK2 := n4_
  have BK3 := n5_
  have HB := n6_
  have HORD := n7_
  have HT := n8_
  have HS11 := n9_
  have HF11 := n10_
  have HC11 := n11_
  clear n0_ n1_ n2_ n3_ n4_ n5_ n6_ n7_ n8_ n9_ n10_ n11_
  clear hs_ ho_ hbn_ hg_ hat_ hkp ol_ e2_
  refine hK.out _ _ ⟨(aD BK3.out 0).trans rfl, (aD BK3.out 1).trans rfl, (aD BK3.out 2).trans rfl, (aD BK3.out 3).trans rfl⟩ (fun hHeld => ?_)
  clear hK K
  refine norm_ (a' := ?_) ?_ ?_
  rotate_left
  ·show Act.put _ (some 26) _ = _
   simp only [Act.put, lA, lB, lC, bF, bE]
   rfl
  refine pure_ (i := 7) (N := some 27) (v := ?_) (a' := ?_) #[true, true, true, true, true, true, true, true, false] rfl rfl (by kernel_rfl) (fun _ _ _ h => h) (Or.inl ⟨by rfl, ?_⟩) ?_ ?_
  rotate_left
  ·intro w'
   go_simp
   with_reducible rfl
  rotate_left
  ·simp only [Act.put, lA, lB, lC, bF, bE]
   rfl
  refine last_ (i := 8) (N := none) #[true, true, true, true, true, true, true, true, true] rfl rfl (by kernel_rfl) (by decide) (fun K hK => ?_)
  have hzgb1_0_12 : w11.cell? ⟨gb1, 0, none⟩ = some (.slice (some ad6) l0_0.length c0_0) := (aD BK1.out 0).trans rfl
  have hygb1_0_12 := aA BK1.out 0
  have hzgb1_1_12 : w11.cell? ⟨gb1, 1, none⟩ = some (.slice A0_1 l0_1.length c0_1) := (aD BK1.out 1).trans rfl
  have hygb1_1_12 := aA BK1.out 1
  have hzgb1_2_12 : w11.cell? ⟨gb1, 2, none⟩ = some (.int .i64 a0_2) := (aD BK1.out 2).trans rfl
  have hygb1_2_12 := aA BK1.out 2
  have hzgb1_3_12 : w11.cell? ⟨gb1, 3, none⟩ = some (.bool a0_3) := (aD BK1.out 3).trans rfl
  have hygb1_3_12 := aA BK1.out 3
  have hzgb2_0_12 : w11.cell? ⟨gb2, 0, none⟩ = some (.slice none 0 0) := (aD BK2.out 0).trans rfl
  have hygb2_0_12 := aA BK2.out 0
  have hzgb2_1_12 : w11.cell? ⟨gb2, 1, none⟩ = some (.slice none 0 0) := (aD BK2.out 1).trans rfl
  have hygb2_1_12 := aA BK2.out 1
  have hzgb2_2_12 : w11.cell? ⟨gb2, 2, none⟩ = some (.int .i64 0) := (aD BK2.out 2).trans rfl
  have hygb2_2_12 := aA BK2.out 2
  have hzgb2_3_12 : w11.cell? ⟨gb2, 3, none⟩ = some (.bool false) := (aD BK2.out 3).trans rfl
  have hygb2_3_12 := aA BK2.out 3
  have hzgb3_0_12 : w11.cell? ⟨gb3, 0, none⟩ = some (.slice A5 xs5.length c5) := (aD BK3.out 0).trans rfl
  have hygb3_0_12 := aA BK3.out 0
  have hzgb3_1_12 : w11.cell? ⟨gb3, 1, none⟩ = some (.slice none 0 0) := (aD BK3.out 1).trans rfl
  have hygb3_1_12 := aA BK3.out 1
  have hzgb3_2_12 : w11.cell? ⟨gb3, 2, none⟩ = some (.int .i64 a0_2) := (aD BK3.out 2).trans rfl
  have hygb3_2_12 := aA BK3.out 2
  have hzgb3_3_12 : w11.cell? ⟨gb3, 3, none⟩ = some (.bool a0_3) := (aD BK3.out 3).trans rfl
  have hygb3_3_12 := aA BK3.out 3
  have hge_ : w.heap.size ≤ gb3 := (by have o_ := HORD.out; omega)
  refine skip_ (w1 := ?_) (by rfl) rfl ?_ ?_
  rotate_left
  ·go_simp
   rfl
  refine hK.out _ _ ?_
  clear hK K
  refine done_ (by kernel_rfl) ?_
  obtain ⟨w12, hw_⟩ : ∃ z_, z_ = (w11.setCell ⟨gb3, 0, none⟩ (.slice A11 ys11.length c11)) := ⟨_, rfl⟩
  (try rw [← hw_])
  have hkp : Kept w11 w12 (fun k_ => k_ = gb3) := (by rw [hw_]; exact Kept.setCell (Kept.refl w11 (fun k_ => k_ = gb3)) (.inl rfl) (.slice A11 ys11.length c11))
  have hbn_ : Below w.heap.size w w12 := (by rw [hw_]; exact aG (HB.out) hge_)
  have hbk_ : w12.heap[gb3]? = some (.cells #[.slice A11 ys11.length c11, .slice none 0 0, .int .i64 a0_2, .bool a0_3] 25 (0, 0)) := (by rw [hw_]; exact aZ (cs := #[.slice A5 xs5.length c5, .slice none 0 0, .int .i64 a0_2, .bool a0_3]) (cs' := #[.slice A11 ys11.length c11, .slice none 0 0, .int .i64 a0_2, .bool a0_3]) (BK3.out) 0 _ rfl)
  have hsz_ : hi11 ≤ w12.heap.size := Nat.le_trans HT.out hkp.1
  have n0_ := aC.mk (Kd.aY HF0_0.out hkp (fun k_ h1_ h2_ => by have o_ := HORD.out; have t_ := HT.out; (try simp only [In2, Up, In] at h1_ h2_); omega))
  have n1_ := aC.mk (Kd.aY HF0_1.out hkp (fun k_ h1_ h2_ => by have o_ := HORD.out; have t_ := HT.out; (try simp only [In2, Up, In] at h1_ h2_); omega))
  have n2_ := aC.mk (Kd.aY HF6.out hkp (fun k_ h1_ h2_ => by have o_ := HORD.out; have t_ := HT.out; (try simp only [In2, Up, In] at h1_ h2_); omega))
  have n3_ := aC.mk (Kd.aY HF11.out hkp (fun k_ h1_ h2_ => by have o_ := HORD.out; have t_ := HT.out; (try simp only [In2, Up, In] at h1_ h2_); omega))
  have n4_ := aC.mk (Kd.bQ HS11.out hkp (fun k_ h1_ h2_ => by have o_ := HORD.out; have t_ := HT.out; (try simp only [In2, Up, In] at h1_ h2_); omega))
  have n5_ := aC.mk (bA BK1.out hkp (fun h2_ => by have o_ := HORD.out; have t_ := HT.out; (try simp only [In2, Up, In] at h2_); omega))
  have n6_ := aC.mk (bA BK2.out hkp (fun h2_ => by have o_ := HORD.out; have t_ := HT.out; (try simp only [In2, Up, In] at h2_); omega))
  have n7_ := aC.mk (hbn_)
  have n8_ := aC.mk (hbk_)
  have n9_ := aC.mk (hsz_)
  (try clear HF0_0)
  (try clear HF0_1)
  (try clear HF6)
  (try clear HF11)
  (try clear HS11)
  (try clear BK1)
  (try clear BK2)
  (try clear HB)
  (try clear BK3)
  (try clear HT)
  have HF0_0 := n0_
  have HF0_1 := n1_
  have HF6 := n2_
  have HF11 := n3_
  have HS11 := n4_
  have BK1 := n5_
  have BK2 := n6_
  have HB := n7_
  have BK3 := n8_
  have HT := n9_
  clear n0_ n1_ n2_ n3_ n4_ n5_ n6_ n7_ n8_ n9_
  clear hw_ hkp hge_ hbn_ hbk_ hsz_
  have hzgb1_0_12 : w12.cell? ⟨gb1, 0, none⟩ = some (.slice (some ad6) l0_0.length c0_0) := (aD BK1.out 0).trans rfl
  have hygb1_0_12 := aA BK1.out 0
  have hzgb1_1_12 : w12.cell? ⟨gb1, 1, none⟩ = some (.slice A0_1 l0_1.length c0_1) := (aD BK1.out 1).trans rfl
  have hygb1_1_12 := aA BK1.out 1
  have hzgb1_2_12 : w12.cell? ⟨gb1, 2, none⟩ = some (.int .i64 a0_2) := (aD BK1.out 2).trans rfl
  have hygb1_2_12 := aA BK1.out 2
  have hzgb1_3_12 : w12.cell? ⟨gb1, 3, none⟩ = some (.bool a0_3) := (aD BK1.out 3).trans rfl
  have hygb1_3_12 := aA BK1.out 3
  have hzgb2_0_12 : w12.cell? ⟨gb2, 0, none⟩ = some (.slice none 0 0) := (aD BK2.out 0).trans rfl
  have hygb2_0_12 := aA BK2.out 0
  have hzgb2_1_12 : w12.cell? ⟨gb2, 1, none⟩ = some (.slice none 0 0) := (aD BK2.out 1).trans rfl
  have hygb2_1_12 := aA BK2.out 1
  have hzgb2_2_12 : w12.cell? ⟨gb2, 2, none⟩ = some (.int .i64 0) := (aD BK2.out 2).trans rfl
  have hygb2_2_12 := aA BK2.out 2
  have hzgb2_3_12 : w12.cell? ⟨gb2, 3, none⟩ = some (.bool false) := (aD BK2.out 3).trans rfl
  have hygb2_3_12 := aA BK2.out 3
  have hzgb3_0_12 : w12.cell? ⟨gb3, 0, none⟩ = some (.slice A11 ys11.length c11) := (aD BK3.out 0).trans rfl
  have hygb3_0_12 := aA BK3.out 0
  have hzgb3_1_12 : w12.cell? ⟨gb3, 1, none⟩ = some (.slice none 0 0) := (aD BK3.out 1).trans rfl
  have hygb3_1_12 := aA BK3.out 1
  have hzgb3_2_12 : w12.cell? ⟨gb3, 2, none⟩ = some (.int .i64 a0_2) := (aD BK3.out 2).trans rfl
  have hygb3_2_12 := aA BK3.out 2
  have hzgb3_3_12 : w12.cell? ⟨gb3, 3, none⟩ = some (.bool a0_3) := (aD BK3.out 3).trans rfl
  have hygb3_3_12 := aA BK3.out 3
  try go_wp2
  go_roundg k1
  case measure => omega
  case rel => exact ⟨i5 + 1, _, _, rfl, ⟨show _ = ((i5 + 1 : Nat) : Int) by have := HI5.out; have hm_ := Kd.F_max HF0_0.out; have := HK5.out; rw [w64 (by omega) (by omega)]; omega⟩, ⟨by have := HK5.out; omega⟩, ⟨Nat.le_trans (by have o_ := HORD.out; omega) HT.out⟩, ⟨by rw [show l0_0.take (i5 + 1) = ys11 from (by rw [HY11.out, HX5.out]; unfold rdR; rw [show x5.toNat = i5 from by have := HI5.out; omega]; exact take_getD _ _ [] (by have := HK5.out; omega))]; exact Kd.S_mono (Kd.S_lower HS11.out (by have o_ := HORD.out; omega)) (fun k_ hk_ => by have o_ := HORD.out; have t_ := HT.out; (try simp only [In2, Up, In] at hk_ ⊢); omega)⟩, HF0_0, HF0_1, BK1, BK2, BK3, HB⟩
 have hi0_ : i5 = l0_0.length := (by have := HK5.out; omega)
 have hd_ : decide (x5 < (l0_0.length : Int)) = false := decide_eq_false (by have := HI5.out; omega)
 have eall_ : xs5 = l0_0 := (by rw [HX5.out, hi0_, List.take_length])
 rw [eall_] at HS5 HF5 HC5 BK3
 have hzgb1_0_12 : wr.cell? ⟨gb1, 0, none⟩ = some (.slice A0_0 l0_0.length c0_0) := (aD BK1.out 0).trans rfl
 have hygb1_0_12 := aA BK1.out 0
 have hzgb1_1_12 : wr.cell? ⟨gb1, 1, none⟩ = some (.slice A0_1 l0_1.length c0_1) := (aD BK1.out 1).trans rfl
 have hygb1_1_12 := aA BK1.out 1
 have hzgb1_2_12 : wr.cell? ⟨gb1, 2, none⟩ = some (.int .i64 a0_2) := (aD BK1.out 2).trans rfl
 have hygb1_2_12 := aA BK1.out 2
 have hzgb1_3_12 : wr.cell? ⟨gb1, 3, none⟩ = some (.bool a0_3) := (aD BK1.out 3).trans rfl
 have hygb1_3_12 := aA BK1.out 3
 have hzgb2_0_12 : wr.cell? ⟨gb2, 0, none⟩ = some (.slice none 0 0) := (aD BK2.out 0).trans rfl
 have hygb2_0_12 := aA BK2.out 0
 have hzgb2_1_12 : wr.cell? ⟨gb2, 1, none⟩ = some (.slice none 0 0) := (aD BK2.out 1).trans rfl
 have hygb2_1_12 := aA BK2.out 1
 have hzgb2_2_12 : wr.cell? ⟨gb2, 2, none⟩ = some (.int .i64 0) := (aD BK2.out 2).trans rfl
 have hygb2_2_12 := aA BK2.out 2
 have hzgb2_3_12 : wr.cell? ⟨gb2, 3, none⟩ = some (.bool false) := (aD BK2.out 3).trans rfl
 have hygb2_3_12 := aA BK2.out 3
 have hzgb3_0_12 : wr.cell? ⟨gb3, 0, none⟩ = some (.slice A5 l0_0.length c5) := (aD BK3.out 0).trans rfl
 have hygb3_0_12 := aA BK3.out 0
 have hzgb3_1_12 : wr.cell? ⟨gb3, 1, none⟩ = some (.slice none 0 0) := (aD BK3.out 1).trans rfl
 have hygb3_1_12 := aA BK3.out 1
 have hzgb3_2_12 : wr.cell? ⟨gb3, 2, none⟩ = some (.int .i64 a0_2) := (aD BK3.out 2).trans rfl
 have hygb3_2_12 := aA BK3.out 2
 have hzgb3_3_12 : wr.cell? ⟨gb3, 3, none⟩ = some (.bool a0_3) := (aD BK3.out 3).trans rfl
 have hygb3_3_12 := aA BK3.out 3
 try go_wp2
 go_loopg [32] (l0_1.length) (fun kq  v13 w' => ∃ (i13 : Nat) (x13 : Int) (u13 : Value), v13 = .int .i64 x13 ∧ aC (x13 = (i13 : Int)) ∧ aC (i13 + kq = l0_1.length) ∧ aC (hi5 ≤ w'.heap.size) ∧ aC (Kd.S k50 50 w' w.heap.size (Up 0 0 hi5) u13 (l0_1.take i13)) ∧ aC (Kd.F (Kd.slice 5 (Kd.int .u8)) w' (In 0 w.heap.size) A0_0 l0_0.length l0_0) ∧ aC (Kd.F k50 w' (In 0 w.heap.size) A0_1 l0_1.length l0_1) ∧ aC (Kd.F (Kd.slice 5 (Kd.int .u8)) w' (In2 0 0 (gb3 + 1) hi5) A5 l0_0.length l0_0) ∧ aC (Kd.S (Kd.slice 5 (Kd.int .u8)) 37 w' w.heap.size (In2 0 0 (gb3 + 1) hi5) (.slice A5 l0_0.length c5) l0_0) ∧ aC (w'.heap[gb1]? = some (.cells #[.slice A0_0 l0_0.length c0_0, .slice A0_1 l0_1.length c0_1, .int .i64 a0_2, .bool a0_3] 25 (0, 0))) ∧ aC (w'.heap[gb2]? = some (.cells #[.slice none 0 0, .slice none 0 0, .int .i64 0, .bool false] 25 (0, 0))) ∧ aC (w'.heap[gb3]? = some (.cells #[.slice A5 l0_0.length c5, u13, .int .i64 a0_2, .bool a0_3] 25 (0, 0))) ∧ aC (Below w.heap.size w w'))
 case atStart => exact ⟨0, 0, _, rfl, ⟨rfl⟩, ⟨Nat.zero_add _⟩, HT, ⟨by rw [show l0_1.take 0 = [] from rfl]; exact Kd.S_nil _ _ _ _ _⟩, HF0_0, HF0_1, HF5, HS5, BK1, BK2, BK3, HB⟩
 clear HF0_0 HF0_1 HF5 HS5 BK1 BK2 BK3 HB HT
 obtain ⟨i13, x13, u13, rfl, HI13, HK13, HT, HS13, HF0_0, HF0_1, HF5, HS5, BK1, BK2, BK3, HB⟩ := hrel
 obtain ⟨xs13, ex_⟩ : ∃ y_, y_ = l0_1.take i13 := ⟨_, rfl⟩
 rw [← ex_] at HS13
 have HX13 := aC.mk ex_
 clear ex_
 obtain ⟨A13, c13, ev_⟩ := Kd.S_slice HS13.out
 subst ev_
 obtain ⟨hi13, e2_⟩ : ∃ n_, n_ = wr.heap.size := ⟨_, rfl⟩
 have ol_ : hi5 ≤ hi13 := (by rw [e2_]; exact HT.out)
 have hs_ := Kd.S_mono (ok' := In2 0 0 hi5 hi13) (Kd.S_bound HS13.out) (fun k_ hk_ => by have h1_ := hk_.1; have h2_ := hk_.2.2.1; rw [← e2_] at h2_; (try simp only [In2, Up, In] at h1_ ⊢); omega)
 have n0_ := aC.mk (And.intro HORD.out ol_)
 have n1_ := aC.mk (Nat.le_of_eq e2_)
 clear HS13 HORD HT
 have HORD := n0_
 have HT := n1_
 have HS13 := aC.mk hs_
 have HF13 := aC.mk (Kd.S_F hs_)
 have HC13 := aC.mk (Kd.S_reads' hs_).2.1
 clear n0_ n1_ hs_ ol_ e2_
 rcases gk with _ | k1
 rotate_left
 ·have hp_ : 0 ≤ x13 := (by have := HI13.out; omega)
  have hq_ : x13 < (l0_1.length : Int) := (by have := HI13.out; have := HK13.out; omega)
  have hd_ : decide (x13 < (l0_1.length : Int)) = true := decide_eq_true hq_
  have hzgb1_0_13 : wr.cell? ⟨gb1, 0, none⟩ = some (.slice A0_0 l0_0.length c0_0) := (aD BK1.out 0).trans rfl
  have hygb1_0_13 := aA BK1.out 0
  have hzgb1_1_13 : wr.cell? ⟨gb1, 1, none⟩ = some (.slice A0_1 l0_1.length c0_1) := (aD BK1.out 1).trans rfl
  have hygb1_1_13 := aA BK1.out 1
  have hzgb1_2_13 : wr.cell? ⟨gb1, 2, none⟩ = some (.int .i64 a0_2) := (aD BK1.out 2).trans rfl
  have hygb1_2_13 := aA BK1.out 2
  have hzgb1_3_13 : wr.cell? ⟨gb1, 3, none⟩ = some (.bool a0_3) := (aD BK1.out 3).trans rfl
  have hygb1_3_13 := aA BK1.out 3
  have hzgb2_0_13 : wr.cell? ⟨gb2, 0, none⟩ = some (.slice none 0 0) := (aD BK2.out 0).trans rfl
  have hygb2_0_13 := aA BK2.out 0
  have hzgb2_1_13 : wr.cell? ⟨gb2, 1, none⟩ = some (.slice none 0 0) := (aD BK2.out 1).trans rfl
  have hygb2_1_13 := aA BK2.out 1
  have hzgb2_2_13 : wr.cell? ⟨gb2, 2, none⟩ = some (.int .i64 0) := (aD BK2.out 2).trans rfl
  have hygb2_2_13 := aA BK2.out 2
  have hzgb2_3_13 : wr.cell? ⟨gb2, 3, none⟩ = some (.bool false) := (aD BK2.out 3).trans rfl
  have hygb2_3_13 := aA BK2.out 3
  have hzgb3_0_13 : wr.cell? ⟨gb3, 0, none⟩ = some (.slice A5 l0_0.length c5) := (aD BK3.out 0).trans rfl
  have hygb3_0_13 := aA BK3.out 0
  have hzgb3_1_13 : wr.cell? ⟨gb3, 1, none⟩ = some (.slice A13 xs13.length c13) := (aD BK3.out 1).trans rfl
  have hygb3_1_13 := aA BK3.out 1
  have hzgb3_2_13 : wr.cell? ⟨gb3, 2, none⟩ = some (.int .i64 a0_2) := (aD BK3.out 2).trans rfl
  have hygb3_2_13 := aA BK3.out 2
  have hzgb3_3_13 : wr.cell? ⟨gb3, 3, none⟩ = some (.bool a0_3) := (aD BK3.out 3).trans rfl
  have hygb3_3_13 := aA BK3.out 3
  obtain ⟨ad14, Ae14, ce14, ee14, hx14_0, hx14_1, hl14, hf14⟩ := F_wr HF0_1.out x13 hp_ hq_
  cases ee14
  have HF14 := aC.mk hf14
  have HC14 := aC.mk hl14
  clear hf14 hl14
  go_wp2_with (first | ((with_reducible refine bC (N := 7) rfl ?_); refine bB ?hg (N := 7) ?hd (cs := #[.int .i64 0, .slice none 0 0]) (t := 50) ?hr ?_; (case hd => rfl); (case hg => rfl); (case hr => first | (go_simp; done) | (go_simp; rfl)); intro gb15 hg_ w15 hbox hb; have hge_ : hi13 ≤ gb15 := (by rw [hg_]; exact HT.out); have hlt_ : gb15 + 1 ≤ w15.heap.size := bH hbox; have n0_ := aC.mk (Kd.aV HF0_0.out hb); have n1_ := aC.mk (Kd.aV HF0_1.out hb); have n2_ := aC.mk (Kd.aV HF5.out hb); have n3_ := aC.mk (Kd.bJ HS5.out hb); have n4_ := aC.mk (Kd.aV HF13.out hb); have n5_ := aC.mk (Kd.bJ HS13.out hb); have n6_ := aC.mk (Kd.aV HF14.out hb); have n7_ := aC.mk (aT BK1.out hb); have n8_ := aC.mk (aT BK2.out hb); have n9_ := aC.mk (aT BK3.out hb); have n10_ := aC.mk (aU HB.out hb); have n11_ := aC.mk (hbox); have n12_ := aC.mk (And.intro HORD.out (And.intro hge_ (Nat.le_succ gb15))); have n13_ := aC.mk (hlt_); (try clear HF0_0); (try clear HF0_1); (try clear HF5); (try clear HS5); (try clear HF13); (try clear HS13); (try clear HF14); (try clear BK1); (try clear BK2); (try clear BK3); (try clear HB); (try clear BK15); (try clear HORD); (try clear HT); have HF0_0 := n0_; have HF0_1 := n1_; have HF5 := n2_; have HS5 := n3_; have HF13 := n4_; have HS13 := n5_; have HF14 := n6_; have BK1 := n7_; have BK2 := n8_; have BK3 := n9_; have HB := n10_; have BK15 := n11_; have HORD := n12_; have HT := n13_; clear n0_ n1_ n2_ n3_ n4_ n5_ n6_ n7_ n8_ n9_ n10_ n11_ n12_ n13_; clear hb hbox hg_ hge_ hlt_; have hzgb1_0_15 : w15.cell? ⟨gb1, 0, none⟩ = some (.slice A0_0 l0_0.length c0_0) := (aD BK1.out 0).trans rfl; have hygb1_0_15 := aA BK1.out 0; have hzgb1_1_15 : w15.cell? ⟨gb1, 1, none⟩ = some (.slice (some ad14) l0_1.length c0_1) := (aD BK1.out 1).trans rfl; have hygb1_1_15 := aA BK1.out 1; have hzgb1_2_15 : w15.cell? ⟨gb1, 2, none⟩ = some (.int .i64 a0_2) := (aD BK1.out 2).trans rfl; have hygb1_2_15 := aA BK1.out 2; have hzgb1_3_15 : w15.cell? ⟨gb1, 3, none⟩ = some (.bool a0_3) := (aD BK1.out 3).trans rfl; have hygb1_3_15 := aA BK1.out 3; have hzgb2_0_15 : w15.cell? ⟨gb2, 0, none⟩ = some (.slice none 0 0) := (aD BK2.out 0).trans rfl; have hygb2_0_15 := aA BK2.out 0; have hzgb2_1_15 : w15.cell? ⟨gb2, 1, none⟩ = some (.slice none 0 0) := (aD BK2.out 1).trans rfl; have hygb2_1_15 := aA BK2.out 1; have hzgb2_2_15 : w15.cell? ⟨gb2, 2, none⟩ = some (.int .i64 0) := (aD BK2.out 2).trans rfl; have hygb2_2_15 := aA BK2.out 2; have hzgb2_3_15 : w15.cell? ⟨gb2, 3, none⟩ = some (.bool false) := (aD BK2.out 3).trans rfl; have hygb2_3_15 := aA BK2.out 3; have hzgb3_0_15 : w15.cell? ⟨gb3, 0, none⟩ = some (.slice A5 l0_0.length c5) := (aD BK3.out 0).trans rfl; have hygb3_0_15 := aA BK3.out 0; have hzgb3_1_15 : w15.cell? ⟨gb3, 1, none⟩ = some (.slice A13 xs13.length c13) := (aD BK3.out 1).trans rfl; have hygb3_1_15 := aA BK3.out 1; have hzgb3_2_15 : w15.cell? ⟨gb3, 2, none⟩ = some (.int .i64 a0_2) := (aD BK3.out 2).trans rfl; have hygb3_2_15 := aA BK3.out 2; have hzgb3_3_15 : w15.cell? ⟨gb3, 3, none⟩ = some (.bool a0_3) := (aD BK3.out 3).trans rfl; have hygb3_3_15 := aA BK3.out 3; have hzgb15_0_15 : w15.cell? ⟨gb15, 0, none⟩ = some (.int .i64 0) := (aD BK15.out 0).trans rfl; have hygb15_0_15 := aA BK15.out 0; have hzgb15_1_15 : w15.cell? ⟨gb15, 1, none⟩ = some (.slice none 0 0) := (aD BK15.out 1).trans rfl; have hygb15_1_15 := aA BK15.out 1) | ((with_reducible refine bR (t := 50) (p := 7) rfl ?_); refine bP (t := 50) (p := 7) (v := ?vo_w16) (w1 := ((w15.setCell ⟨gb15, 0, none⟩ (.int .i64 ((rdW l0_1 x13).f0))).setCell ⟨gb15, 1, none⟩ (.slice Ae14 ((rdW l0_1 x13).f1).length ce14))) ?hg ?ho ?hn ?hr ?_; (case ho => rfl); (case hg => rfl); (case hn => rfl); (case hr => first | (go_simp; done) | (go_simp; rfl)); intro w16 hw_; have hkp : Kept w15 w16 (fun k_ => k_ = gb15) := (by rw [hw_]; exact Kept.setCell (Kept.setCell (Kept.refl w15 (fun k_ => k_ = gb15)) (.inl rfl) (.int .i64 ((rdW l0_1 x13).f0))) (.inl rfl) (.slice Ae14 ((rdW l0_1 x13).f1).length ce14)); have hge_ : w.heap.size ≤ gb15 := (by have o_ := HORD.out; (try unfold In at *); (try show _ ≠ _); omega); have hbn_ : Below w.heap.size w w16 := (by rw [hw_]; exact aG (aG (HB.out) hge_) hge_); have hbk_ : w16.heap[gb15]? = some (.cells #[.int .i64 ((rdW l0_1 x13).f0), .slice Ae14 ((rdW l0_1 x13).f1).length ce14] 50 (0, 0)) := (by rw [hw_]; exact aZ (cs := #[.int .i64 ((rdW l0_1 x13).f0), .slice none 0 0]) (cs' := #[.int .i64 ((rdW l0_1 x13).f0), .slice Ae14 ((rdW l0_1 x13).f1).length ce14]) (aZ (cs := #[.int .i64 0, .slice none 0 0]) (cs' := #[.int .i64 ((rdW l0_1 x13).f0), .slice none 0 0]) (BK15.out) 0 _ rfl) 1 _ rfl); have hsz_ : (gb15 + 1) ≤ w16.heap.size := Nat.le_trans HT.out hkp.1; have n0_ := aC.mk (Kd.aY HF0_0.out hkp (fun k_ h1_ h2_ => by have o_ := HORD.out; have t_ := HT.out; (try simp only [In2, Up, In] at h1_ h2_); omega)); have n1_ := aC.mk (Kd.aY HF0_1.out hkp (fun k_ h1_ h2_ => by have o_ := HORD.out; have t_ := HT.out; (try simp only [In2, Up, In] at h1_ h2_); omega)); have n2_ := aC.mk (Kd.aY HF5.out hkp (fun k_ h1_ h2_ => by have o_ := HORD.out; have t_ := HT.out; (try simp only [In2, Up, In] at h1_ h2_); omega)); have n3_ := aC.mk (Kd.bQ HS5.out hkp (fun k_ h1_ h2_ => by have o_ := HORD.out; have t_ := HT.out; (try simp only [In2, Up, In] at h1_ h2_); omega)); have n4_ := aC.mk (Kd.aY HF13.out hkp (fun k_ h1_ h2_ => by have o_ := HORD.out; have t_ := HT.out; (try simp only [In2, Up, In] at h1_ h2_); omega)); have n5_ := aC.mk (Kd.bQ HS13.out hkp (fun k_ h1_ h2_ => by have o_ := HORD.out; have t_ := HT.out; (try simp only [In2, Up, In] at h1_ h2_); omega)); have n6_ := aC.mk (Kd.aY HF14.out hkp (fun k_ h1_ h2_ => by have o_ := HORD.out; have t_ := HT.out; (try simp only [In2, Up, In] at h1_ h2_); omega)); have n7_ := aC.mk (bA BK1.out hkp (fun h2_ => by have o_ := HORD.out; have t_ := HT.out; (try simp only [In2, Up, In] at h2_); omega)); have n8_ := aC.mk (bA BK2.out hkp (fun h2_ => by have o_ := HORD.out; have t_ := HT.out; (try simp only [In2, Up, In] at h2_); omega)); have n9_ := aC.mk (bA BK3.out hkp (fun h2_ => by have o_ := HORD.out; have t_ := HT.out; (try simp only [In2, Up, In] at h2_); omega)); have n10_ := aC.mk (hbn_); have n11_ := aC.mk (hbk_); have n12_ := aC.mk (hsz_); (try clear HF0_0); (try clear HF0_1); (try clear HF5); (try clear HS5); (try clear HF13); (try clear HS13); (try clear HF14); (try clear BK1); (try clear BK2); (try clear BK3); (try clear HB); (try clear BK15); (try clear HT); have HF0_0 := n0_; have HF0_1 := n1_; have HF5 := n2_; have HS5 := n3_; have HF13 := n4_; have HS13 := n5_; have HF14 := n6_; have BK1 := n7_; have BK2 := n8_; have BK3 := n9_; have HB := n10_; have BK15 := n11_; have HT := n12_; clear n0_ n1_ n2_ n3_ n4_ n5_ n6_ n7_ n8_ n9_ n10_ n11_ n12_; clear hw_ hkp hge_ hbn_ hbk_ hsz_; have hzgb1_0_16 : w16.cell? ⟨gb1, 0, none⟩ = some (.slice A0_0 l0_0.length c0_0) := (aD BK1.out 0).trans rfl; have hygb1_0_16 := aA BK1.out 0; have hzgb1_1_16 : w16.cell? ⟨gb1, 1, none⟩ = some (.slice (some ad14) l0_1.length c0_1) := (aD BK1.out 1).trans rfl; have hygb1_1_16 := aA BK1.out 1; have hzgb1_2_16 : w16.cell? ⟨gb1, 2, none⟩ = some (.int .i64 a0_2) := (aD BK1.out 2).trans rfl; have hygb1_2_16 := aA BK1.out 2; have hzgb1_3_16 : w16.cell? ⟨gb1, 3, none⟩ = some (.bool a0_3) := (aD BK1.out 3).trans rfl; have hygb1_3_16 := aA BK1.out 3; have hzgb2_0_16 : w16.cell? ⟨gb2, 0, none⟩ = some (.slice none 0 0) := (aD BK2.out 0).trans rfl; have hygb2_0_16 := aA BK2.out 0; have hzgb2_1_16 : w16.cell? ⟨gb2, 1, none⟩ = some (.slice none 0 0) := (aD BK2.out 1).trans rfl; have hygb2_1_16 := aA BK2.out 1; have hzgb2_2_16 : w16.cell? ⟨gb2, 2, none⟩ = some (.int .i64 0) := (aD BK2.out 2).trans rfl; have hygb2_2_16 := aA BK2.out 2; have hzgb2_3_16 : w16.cell? ⟨gb2, 3, none⟩ = some (.bool false) := (aD BK2.out 3).trans rfl; have hygb2_3_16 := aA BK2.out 3; have hzgb3_0_16 : w16.cell? ⟨gb3, 0, none⟩ = some (.slice A5 l0_0.length c5) := (aD BK3.out 0).trans rfl; have hygb3_0_16 := aA BK3.out 0; have hzgb3_1_16 : w16.cell? ⟨gb3, 1, none⟩ = some (.slice A13 xs13.length c13) := (aD BK3.out 1).trans rfl; have hygb3_1_16 := aA BK3.out 1; have hzgb3_2_16 : w16.cell? ⟨gb3, 2, none⟩ = some (.int .i64 a0_2) := (aD BK3.out 2).trans rfl; have hygb3_2_16 := aA BK3.out 2; have hzgb3_3_16 : w16.cell? ⟨gb3, 3, none⟩ = some (.bool a0_3) := (aD BK3.out 3).trans rfl; have hygb3_3_16 := aA BK3.out 3; have hzgb15_0_16 : w16.cell? ⟨gb15, 0, none⟩ = some (.int .i64 ((rdW l0_1 x13).f0)) := (aD BK15.out 0).trans rfl; have hygb15_0_16 := aA BK15.out 0; have hzgb15_1_16 : w16.cell? ⟨gb15, 1, none⟩ = some (.slice Ae14 ((rdW l0_1 x13).f1).length ce14) := (aD BK15.out 1).trans rfl; have hygb15_1_16 := aA BK15.out 1))
  have n_ := aC.mk (Kd.F_drew HF0_0.out)
  clear HF0_0
  have HF0_0 := n_
  clear n_
  have n_ := aC.mk (Kd.F_drew HF0_1.out)
  clear HF0_1
  have HF0_1 := n_
  clear n_
  have n_ := aC.mk (Kd.F_drew HF5.out)
  clear HF5
  have HF5 := n_
  clear n_
  have n_ := aC.mk (Kd.S_drew HS5.out)
  clear HS5
  have HS5 := n_
  clear n_
  have n_ := aC.mk (Kd.F_drew HF13.out)
  clear HF13
  have HF13 := n_
  clear n_
  have n_ := aC.mk (Kd.S_drew HS13.out)
  clear HS13
  have HS13 := n_
  clear n_
  have n_ := aC.mk (Kd.F_drew HF14.out)
  clear HF14
  have HF14 := n_
  clear n_
  have n_ := aC.mk (aQ BK1.out)
  clear BK1
  have BK1 := n_
  clear n_
  have n_ := aC.mk (aQ BK2.out)
  clear BK2
  have BK2 := n_
  clear n_
  have n_ := aC.mk (aQ BK3.out)
  clear BK3
  have BK3 := n_
  clear n_
  have n_ := aC.mk (aQ BK15.out)
  clear BK15
  have BK15 := n_
  clear n_
  have n_ := aC.mk (aH HB.out)
  clear HB
  have HB := n_
  clear n_
  have n_ := aC.mk (show _ ≤ w16.drew.heap.size from HT.out)
  clear HT
  have HT := n_
  clear n_
  refine start_ (n := 13) (S := fun w' => w'.cell? ⟨gb3, 0, none⟩ = some (.slice A5 l0_0.length c5) ∧ w'.cell? ⟨gb3, 1, none⟩ = some (.slice A13 xs13.length c13) ∧ w'.cell? ⟨gb3, 2, none⟩ = some (.int .i64 a0_2) ∧ w'.cell? ⟨gb3, 3, none⟩ = some (.bool a0_3) ∧ w'.cell? ⟨gb15, 0, none⟩ = some (.int .i64 ((rdW l0_1 x13).f0)) ∧ w'.cell? ⟨gb15, 1, none⟩ = some (.slice Ae14 ((rdW l0_1 x13).f1).length ce14)) (ds := [12]) #[false, false, false, false, false, false, false, false, false, false, false, false, false] (by kernel_rfl) rfl rfl ⟨(aD BK3.out 0).trans rfl, (aD BK3.out 1).trans rfl, (aD BK3.out 2).trans rfl, (aD BK3.out 3).trans rfl, (aD BK15.out 0).trans rfl, (aD BK15.out 1).trans rfl⟩ (fun hHeld => ?_)
  generalize w16.drew = w17 at HF0_0 HF0_1 HF5 HS5 HF13 HS13 HF14 BK1 BK2 BK3 BK15 HB HT hHeld ⊢
  refine pure_ (i := 0) (N := some 36) (v := ?_) (a' := ?_) #[true, false, false, false, false, false, false, false, false, false, false, false, false] rfl rfl (by kernel_rfl) (fun _ _ _ h => h) (Or.inl ⟨by rfl, ?_⟩) ?_ ?_
  rotate_left
  ·intro w'
   go_simp
   with_reducible rfl
  rotate_left
  ·simp only [Act.put, lA, lB, lC, bF, bE]
   rfl
  refine take_ (i := 1) (N := some 37) (v := ?_) (a' := ?_) #[true, true, false, false, false, false, false, false, false, false, false, false, false] rfl rfl (by kernel_rfl) (fun _ _ _ h => h) (Or.inl ⟨by rfl, ?_⟩) hHeld ?_ ?_
  rotate_left
  ·rintro w' ⟨s0, s1, s2, s3, s4, s5⟩
   go_simp
   with_reducible rfl
  rotate_left
  ·simp only [Act.put, lA, lB, lC, bF, bE]
   rfl
  refine pure_ (i := 2) (N := some 38) (v := ?_) (a' := ?_) #[true, true, true, false, false, false, false, false, false, false, false, false, false] rfl rfl (by kernel_rfl) (fun _ _ _ h => h) (Or.inl ⟨by rfl, ?_⟩) ?_ ?_
  rotate_left
  ·intro w'
   go_simp
   with_reducible rfl
  rotate_left
  ·simp only [Act.put, lA, lB, lC, bF, bE]
   rfl
  refine take_ (i := 3) (N := some 39) (v := ?_) (a' := ?_) #[true, true, true, true, false, false, false, false, false, false, false, false, false] rfl rfl (by kernel_rfl) (fun _ _ _ h => h) (Or.inl ⟨by rfl, ?_⟩) hHeld ?_ ?_
  rotate_left
  ·rintro w' ⟨s0, s1, s2, s3, s4, s5⟩
   go_simp
   with_reducible rfl
  rotate_left
  ·simp only [Act.put, lA, lB, lC, bF, bE]
   rfl
  refine pure_ (i := 4) (N := some 40) (v := ?_) (a' := ?_) #[true, true, true, true, true, false, false, false, false, false, false, false, false] rfl rfl (by kernel_rfl) (fun _ _ _ h => h) (Or.inl ⟨by rfl, ?_⟩) ?_ ?_
  rotate_left
  ·intro w'
   go_simp
   with_reducible rfl
  rotate_left
  ·simp only [Act.put, lA, lB, lC, bF, bE]
   rfl
  refine take_ (i := 5) (N := some 41) (v := ?_) (a' := ?_) #[true, true, true, true, true, true, false, false, false, false, false, false, false] rfl rfl (by kernel_rfl) (fun _ _ _ h => h) (Or.inl ⟨by rfl, ?_⟩) hHeld ?_ ?_
  rotate_left
  ·rintro w' ⟨s0, s1, s2, s3, s4, s5⟩
   go_simp
   with_reducible rfl
  rotate_left
  ·simp only [Act.put, lA, lB, lC, bF, bE]
   rfl
  refine one_ (i := 6) (N := some 42) #[true, true, true, true, true, true, true, false, false, false, false, false, false] rfl rfl (by kernel_rfl) (by decide) (fun K hK => ?_)
  refine Kd.N_lit_step (Kd.slice 5 (Kd.int .u8)) _ 37 ?hg (N' := 42) ?hd (xs := ([(rdW l0_1 x13).f1] : List (List (Int)))) (inner := [.slice Ae14 ((rdW l0_1 x13).f1).length ce14]) (ok := (fun k_ => (In 0 w.heap.size) k_ ∨ (gb15 + 1) ≤ k_)) (okp := (In 0 w.heap.size)) ?hr ?hp (fun _ hk => .inl hk) (.inr HT.out) (Below.refl _ _) (Nat.le_refl _) (by simp) ?_
  (case hd => rfl)
  (case hg => rfl)
  (case hr => first | (go_simp; done) | (go_simp; rfl))
  (case hp => exact (Reps.one (Kd.FK_slice_mk HC14.out HF14.out) (Reps.none _ _)))
  intro vl18 w18 ho_ hb hg_ hat_
  obtain ⟨A18, c18, ev_⟩ := Kd.N_slice ho_
  subst ev_
  have n0_ := aC.mk (Kd.aV HF0_0.out hb)
  have n1_ := aC.mk (Kd.aV HF0_1.out hb)
  have n2_ := aC.mk (Kd.aV HF5.out hb)
  have n3_ := aC.mk (Kd.bJ HS5.out hb)
  have n4_ := aC.mk (Kd.aV HF13.out hb)
  have n5_ := aC.mk (Kd.bJ HS13.out hb)
  have n6_ := aC.mk (Kd.aV HF14.out hb)
  have n7_ := aC.mk (aT BK1.out hb)
  have n8_ := aC.mk (aT BK2.out hb)
  have n9_ := aC.mk (aT BK3.out hb)
  have n10_ := aC.mk (aT BK15.out hb)
  have n11_ := aC.mk (aU HB.out hb)
  have n12_ := aC.mk (Nat.le_trans HT.out hb.size)
  have n13_ := aC.mk (Kd.N_F ho_)
  have n14_ := aC.mk ((Kd.N_reads' ho_).2.1)
  (try clear HF0_0)
  (try clear HF0_1)
  (try clear HF5)
  (try clear HS5)
  (try clear HF13)
  (try clear HS13)
  (try clear HF14)
  (try clear BK1)
  (try clear BK2)
  (try clear BK3)
  (try clear BK15)
  (try clear HB)
  (try clear HT)
  (try clear HF18)
  (try clear HC18)
  have HF0_0 := n0_
  have HF0_1 := n1_
  have HF5 := n2_
  have HS5 := n3_
  have HF13 := n4_
  have HS13 := n5_
  have HF14 := n6_
  have BK1 := n7_
  have BK2 := n8_
  have BK3 := n9_
  have BK15 := n10_
  have HB := n11_
  have HT := n12_
  have HF18 := n13_
  have HC18 := n14_
  clear n0_ n1_ n2_ n3_ n4_ n5_ n6_ n7_ n8_ n9_ n10_ n11_ n12_ n13_ n14_
  clear hb ho_ hg_ hat_
  refine hK.out _ _ ⟨(aD BK3.out 0).trans rfl, (aD BK3.out 1).trans rfl, (aD BK3.out 2).trans rfl, (aD BK3.out 3).trans rfl, (aD BK15.out 0).trans rfl, (aD BK15.out 1).trans rfl⟩ (fun hHeld => ?_)
  clear hK K
  refine norm_ (a' := ?_) ?_ ?_
  rotate_left
  ·show Act.put _ (some 42) _ = _
   simp only [Act.put, lA, lB, lC, bF, bE]
   rfl
  refine one_ (i := 7) (N := some 43) #[true, true, true, true, true, true, true, true, false, false, false, false, false] rfl rfl (by kernel_rfl) (by decide) (fun K hK => ?_)
  obtain ⟨kj20, hj_⟩ := joined1 ((rdW l0_1 x13).f1) (by first | exact getS_len hok0 _ | exact getW_len hok1 _)
  have J20 := aC.mk hj_
  clear hj_
  refine goes_ Try.func55 (by kernel_rfl) rfl #[.slice A18 (([(rdW l0_1 x13).f1] : List (List (Int)))).length c18] (by rfl) rfl rfl (by (try simp only [List.map_toArray, List.map_cons, List.map_nil]); first | done | rfl | (simp only [List.length_drop, List.length_take]; rfl)) ?_
  (with_reducible refine (impl_joined.calls kj20 _ _ (([(rdW l0_1 x13).f1] : List (List (Int)))) ((rdW l0_1 x13).f1) _ ?s1 ?s2 J20.out).mono ?_)
  (case s1 => exact (Kd.F_now HF18.out))
  (case s2 => exact HC18.out)
  rintro e_ w19 ⟨v0_, rfl, ho0, hb⟩
  refine ⟨_, rfl, ?_⟩
  obtain ⟨lo19, hi19, el_, eh_, ol_, oh_⟩ := Mem.times HT.out hb
  (try rw [← el_] at ho0)
  obtain ⟨A19_0, c19_0, ev_, hc0_, hf0_, hs0_⟩ := Mem.new_R ho0 eh_
  subst ev_
  have n0_ := aC.mk (Kd.aV HF0_0.out hb)
  have n1_ := aC.mk (Kd.aV HF0_1.out hb)
  have n2_ := aC.mk (Kd.aV HF5.out hb)
  have n3_ := aC.mk (Kd.bJ HS5.out hb)
  have n4_ := aC.mk (Kd.aV HF13.out hb)
  have n5_ := aC.mk (Kd.bJ HS13.out hb)
  have n6_ := aC.mk (Kd.aV HF14.out hb)
  have n7_ := aC.mk (Kd.aV HF18.out hb)
  have n8_ := aC.mk (aT BK1.out hb)
  have n9_ := aC.mk (aT BK2.out hb)
  have n10_ := aC.mk (aT BK3.out hb)
  have n11_ := aC.mk (aT BK15.out hb)
  have n12_ := aC.mk (aU HB.out hb)
  have n13_ := aC.mk (hf0_)
  have n14_ := aC.mk (hc0_)
  have n15_ := aC.mk (hs0_)
  have n16_ := aC.mk (And.intro HORD.out (And.intro ol_ oh_))
  have n17_ := aC.mk (Nat.le_of_eq eh_)
  (try clear HF0_0)
  (try clear HF0_1)
  (try clear HF5)
  (try clear HS5)
  (try clear HF13)
  (try clear HS13)
  (try clear HF14)
  (try clear HF18)
  (try clear BK1)
  (try clear BK2)
  (try clear BK3)
  (try clear BK15)
  (try clear HB)
  (try clear HF19_0)
  (try clear HC19_0)
  (try clear HS19_0)
  (try clear HORD)
  (try clear HT)
  have HF0_0 := n0_
  have HF0_1 := n1_
  have HF5 := n2_
  have HS5 := n3_
  have HF13 := n4_
  have HS13 := n5_
  have HF14 := n6_
  have HF18 := n7_
  have BK1 := n8_
  have BK2 := n9_
  have BK3 := n10_
  have BK15 := n11_
  have HB := n12_
  have HF19_0 := n13_
  have HC19_0 := n14_
  have HS19_0 := n15_
  have HORD := n16_
  have HT := n17_
  clear n0_ n1_ n2_ n3_ n4_ n5_ n6_ n7_ n8_ n9_ n10_ n11_ n12_ n13_ n14_ n15_ n16_ n17_
  clear ol_ oh_ el_ eh_ ho0 hf0_ hc0_ hs0_
  (try clear hb)
  refine hK.out _ _ ⟨(aD BK3.out 0).trans rfl, (aD BK3.out 1).trans rfl, (aD BK3.out 2).trans rfl, (aD BK3.out 3).trans rfl, (aD BK15.out 0).trans rfl, (aD BK15.out 1).trans rfl⟩ (fun hHeld => ?_)
  clear hK K
  refine norm_ (a' := ?_) ?_ ?_
  rotate_left
  ·show Act.put _ (some 43) _ = _
   simp only [Act.put, lA, lB, lC, bF, bE]
   rfl
  refine pure_ (i := 8) (N := some 44) (v := ?_) (a' := ?_) #[true, true, true, true, true, true, true, true, true, false, false, false, false] rfl rfl (by kernel_rfl) (fun _ _ _ h => h) (Or.inl ⟨by rfl, ?_⟩) ?_ ?_
  rotate_left
  ·intro w'
   go_simp
   with_reducible rfl
  rotate_left
  ·simp only [Act.put, lA, lB, lC, bF, bE]
   rfl
  refine one_ (i := 9) (N := some 45) #[true, true, true, true, true, true, true, true, true, true, false, false, false] rfl rfl (by kernel_rfl) (by decide) (fun K hK => ?_)
  refine value_ (w1 := ?_) (v := ?_) (by rfl) rfl ?_ ?_
  rotate_left 2
  ·go_simp
   constructor
   ·rfl
   ·rfl
  refine hK.out _ _ ⟨(aD (aM BK3.out _) 0).trans rfl, (aD (aM BK3.out _) 1).trans rfl, (aD (aM BK3.out _) 2).trans rfl, (aD (aM BK3.out _) 3).trans rfl, (aD (aM BK15.out _) 0).trans rfl, (aD (aM BK15.out _) 1).trans rfl⟩ (fun hHeld => ?_)
  clear hK K
  refine norm_ (a' := ?_) ?_ ?_
  rotate_left
  ·show Act.put _ (some 45) _ = _
   simp only [Act.put, lA, lB, lC, bF, bE]
   rfl
  refine one_ (i := 10) (N := some 46) #[true, true, true, true, true, true, true, true, true, true, true, false, false] rfl rfl (by kernel_rfl) (by decide) (fun K hK => ?_)
  refine Kd.S_append_step k50 (w0 := w) w.heap.size (by rfl) (.tmp 37) (.tmp 45) 23 50 (.agg #[.int .i64 0, .slice none 0 0]) 32 rfl Try.underlying23 info50 rfl (by decide) (by omega) (.slice A13 xs13.length c13) xs13 ((⟨(rdW l0_1 x13).f0, (rdW l0_1 x13).f1⟩ : S50)) [.int .i64 ((rdW l0_1 x13).f0), .slice A19_0 ((rdW l0_1 x13).f1).length c19_0] (Up 0 0 hi5) (In lo19 hi19) rfl rfl ?aP ?aK ?aF ?aO ?aB ?aS ?aL ?_
  (case aB => exact HB.out)
  (case aS => exact aW HB.out)
  (case aP => exact k50_mkM _ _ _ _ (Kd.R_lower HS19_0.out (by have o_ := HORD.out; have t_ := HT.out; (try simp only [In2, Up, In] at *); omega)))
  (case aK => exact (fun k_ hk_ => ⟨(by have o_ := HORD.out; have t_ := HT.out; (try simp only [In2, Up, In] at hk_ ⊢); omega), (fun he_ => by have hz_ := (Kd.S_R HS13.out).1 k_ he_.symm; have o_ := HORD.out; have t_ := HT.out; (try simp only [In2, Up, In] at hk_ hz_); omega)⟩))
  (case aF => exact (fun k_ hk_ => by have o_ := HORD.out; have t_ := HT.out; (try simp only [In2, Up, In] at hk_ ⊢); omega))
  (case aO => exact Kd.S_mono (Kd.S_lower HS13.out (by have o_ := HORD.out; omega)) (fun k_ hk_ => ⟨(by have o_ := HORD.out; have t_ := HT.out; (try simp only [In2, Up, In] at hk_ ⊢); omega), (fun h2_ => by have o_ := HORD.out; have t_ := HT.out; (try simp only [In2, Up, In] at hk_ h2_); omega)⟩))
  (case aL => (have hl1_ := okWrS_len hok1; have h3_ := congrArg List.length HX13.out; rw [List.length_take] at h3_; omega))
  intro v21 w21 ho_ hbn_ hg_ hat_
  obtain ⟨ys21, ey_⟩ : ∃ y_, y_ = xs13 ++ [(⟨(rdW l0_1 x13).f0, (rdW l0_1 x13).f1⟩ : S50)] := ⟨_, rfl⟩
  rw [← ey_] at ho_
  have HY21 := aC.mk ey_
  clear ey_
  have hkp := kept_grown (S := (In2 0 0 hi5 hi13)) hg_ (fun k_ he_ => (Kd.S_R HS13.out).1 k_ he_)
  obtain ⟨A21, c21, ev_⟩ := Kd.S_slice ho_
  subst ev_
  obtain ⟨hi21, e2_⟩ : ∃ n_, n_ = w21.heap.size := ⟨_, rfl⟩
  have ol_ : hi19 ≤ hi21 := (by rw [e2_]; exact Nat.le_trans HT.out hkp.1)
  have hs_ := Kd.S_mono (ok' := In2 0 0 hi5 hi21) (Kd.S_bound ho_) (fun k_ hk_ => by have h1_ := hk_.1; have h2_ := hk_.2.2.1; rw [← e2_] at h2_; (try simp only [In2, Up, In] at h1_ ⊢); omega)
  have n0_ := aC.mk (Kd.aY HF0_0.out hkp (fun k_ h1_ h2_ => by have o_ := HORD.out; have t_ := HT.out; (try simp only [In2, Up, In] at h1_ h2_); omega))
  have n1_ := aC.mk (Kd.aY HF0_1.out hkp (fun k_ h1_ h2_ => by have o_ := HORD.out; have t_ := HT.out; (try simp only [In2, Up, In] at h1_ h2_); omega))
  have n2_ := aC.mk (Kd.aY HF5.out hkp (fun k_ h1_ h2_ => by have o_ := HORD.out; have t_ := HT.out; (try simp only [In2, Up, In] at h1_ h2_); omega))
  have n3_ := aC.mk (Kd.bQ HS5.out hkp (fun k_ h1_ h2_ => by have o_ := HORD.out; have t_ := HT.out; (try simp only [In2, Up, In] at h1_ h2_); omega))
  have n4_ := aC.mk (Kd.aY HF14.out hkp (fun k_ h1_ h2_ => by have o_ := HORD.out; have t_ := HT.out; (try simp only [In2, Up, In] at h1_ h2_); omega))
  have n5_ := aC.mk (bA BK1.out hkp (fun h2_ => by have o_ := HORD.out; have t_ := HT.out; (try simp only [In2, Up, In] at h2_); omega))
  have n6_ := aC.mk (bA BK2.out hkp (fun h2_ => by have o_ := HORD.out; have t_ := HT.out; (try simp only [In2, Up, In] at h2_); omega))
  have n7_ := aC.mk (bA BK3.out hkp (fun h2_ => by have o_ := HORD.out; have t_ := HT.out; (try simp only [In2, Up, In] at h2_); omega))
  have n8_ := aC.mk (bA BK15.out hkp (fun h2_ => by have o_ := HORD.out; have t_ := HT.out; (try simp only [In2, Up, In] at h2_); omega))
  have n9_ := aC.mk (hbn_)
  have n10_ := aC.mk (And.intro HORD.out ol_)
  have n11_ := aC.mk (Nat.le_of_eq e2_)
  have n12_ := aC.mk (hs_)
  have n13_ := aC.mk (Kd.S_F hs_)
  have n14_ := aC.mk ((Kd.S_reads' hs_).2.1)
  (try clear HF0_0)
  (try clear HF0_1)
  (try clear HF5)
  (try clear HS5)
  (try clear HF14)
  (try clear BK1)
  (try clear BK2)
  (try clear BK3)
  (try clear BK15)
  (try clear HB)
  (try clear HORD)
  (try clear HT)
  (try clear HS21)
  (try clear HF21)
  (try clear HC21)
  have HF0_0 := n0_
  have HF0_1 := n1_
  have HF5 := n2_
  have HS5 := n3_
  have HF14 := n4_
  have BK1 := n5_
  have BK2 := n6_
  have BK3 := n7_
  have BK15 := n8_
  have HB := n9_
  have HORD := n10_
  have HT := n11_
  have HS21 := n12_
  have HF21 := n13_
  have HC21 := n14_
  clear n0_ n1_ n2_ n3_ n4_ n5_ n6_ n7_ n8_ n9_ n10_ n11_ n12_ n13_ n14_
  clear hs_ ho_ hbn_ hg_ hat_ hkp ol_ e2_
  refine hK.out _ _ ⟨(aD BK3.out 0).trans rfl, (aD BK3.out 1).trans rfl, (aD BK3.out 2).trans rfl, (aD BK3.out 3).trans rfl, (aD BK15.out 0).trans rfl, (aD BK15.out 1).trans rfl⟩ (fun hHeld => ?_)
  clear hK K
  refine norm_ (a' := ?_) ?_ ?_
  rotate_left
  ·show Act.put _ (some 46) _ = _
   simp only [Act.put, lA, lB, lC, bF, bE]
   rfl
  refine pure_ (i := 11) (N := some 47) (v := ?_) (a' := ?_) #[true, true, true, true, true, true, true, true, true, true, true, true, false] rfl rfl (by kernel_rfl) (fun _ _ _ h => h) (Or.inl ⟨by rfl, ?_⟩) ?_ ?_
  rotate_left
  ·intro w'
   go_simp
   with_reducible rfl
  rotate_left
  ·simp only [Act.put, lA, lB, lC, bF, bE]
   rfl
  refine last_ (i := 12) (N := none) #[true, true, true, true, true, true, true, true, true, true, true, true, true] rfl rfl (by kernel_rfl) (by decide) (fun K hK => ?_)
  have hzgb1_0_22 : w21.cell? ⟨gb1, 0, none⟩ = some (.slice A0_0 l0_0.length c0_0) := (aD BK1.out 0).trans rfl
  have hygb1_0_22 := aA BK1.out 0
  have hzgb1_1_22 : w21.cell? ⟨gb1, 1, none⟩ = some (.slice (some ad14) l0_1.length c0_1) := (aD BK1.out 1).trans rfl
  have hygb1_1_22 := aA BK1.out 1
  have hzgb1_2_22 : w21.cell? ⟨gb1, 2, none⟩ = some (.int .i64 a0_2) := (aD BK1.out 2).trans rfl
  have hygb1_2_22 := aA BK1.out 2
  have hzgb1_3_22 : w21.cell? ⟨gb1, 3, none⟩ = some (.bool a0_3) := (aD BK1.out 3).trans rfl
  have hygb1_3_22 := aA BK1.out 3
  have hzgb2_0_22 : w21.cell? ⟨gb2, 0, none⟩ = some (.slice none 0 0) := (aD BK2.out 0).trans rfl
  have hygb2_0_22 := aA BK2.out 0
  have hzgb2_1_22 : w21.cell? ⟨gb2, 1, none⟩ = some (.slice none 0 0) := (aD BK2.out 1).trans rfl
  have hygb2_1_22 := aA BK2.out 1
  have hzgb2_2_22 : w21.cell? ⟨gb2, 2, none⟩ = some (.int .i64 0) := (aD BK2.out 2).trans rfl
  have hygb2_2_22 := aA BK2.out 2
  have hzgb2_3_22 : w21.cell? ⟨gb2, 3, none⟩ = some (.bool false) := (aD BK2.out 3).trans rfl
  have hygb2_3_22 := aA BK2.out 3
  have hzgb3_0_22 : w21.cell? ⟨gb3, 0, none⟩ = some (.slice A5 l0_0.length c5) := (aD BK3.out 0).trans rfl
  have hygb3_0_22 := aA BK3.out 0
  have hzgb3_1_22 : w21.cell? ⟨gb3, 1, none⟩ = some (.slice A13 xs13.length c13) := (aD BK3.out 1).trans rfl
  have hygb3_1_22 := aA BK3.out 1
  have hzgb3_2_22 : w21.cell? ⟨gb3, 2, none⟩ = some (.int .i64 a0_2) := (aD BK3.out 2).trans rfl
  have hygb3_2_22 := aA BK3.out 2
  have hzgb3_3_22 : w21.cell? ⟨gb3, 3, none⟩ = some (.bool a0_3) := (aD BK3.out 3).trans rfl
  have hygb3_3_22 := aA BK3.out 3
  have hzgb15_0_22 : w21.cell? ⟨gb15, 0, none⟩ = some (.int .i64 ((rdW l0_1 x13).f0)) := (aD BK15.out 0).trans rfl
  have hygb15_0_22 := aA BK15.out 0
  have hzgb15_1_22 : w21.cell? ⟨gb15, 1, none⟩ = some (.slice Ae14 ((rdW l0_1 x13).f1).length ce14) := (aD BK15.out 1).trans rfl
  have hygb15_1_22 := aA BK15.out 1
  have hge_ : w.heap.size ≤ gb3 := (by have o_ := HORD.out; omega)
  refine skip_ (w1 := ?_) (by rfl) rfl ?_ ?_
  rotate_left
  ·go_simp
   rfl
  refine hK.out _ _ ?_
  clear hK K
  refine done_ (by kernel_rfl) ?_
  obtain ⟨w22, hw_⟩ : ∃ z_, z_ = (w21.setCell ⟨gb3, 1, none⟩ (.slice A21 ys21.length c21)) := ⟨_, rfl⟩
  (try rw [← hw_])
  have hkp : Kept w21 w22 (fun k_ => k_ = gb3) := (by rw [hw_]; exact Kept.setCell (Kept.refl w21 (fun k_ => k_ = gb3)) (.inl rfl) (.slice A21 ys21.length c21))
  have hbn_ : Below w.heap.size w w22 := (by rw [hw_]; exact aG (HB.out) hge_)
  have hbk_ : w22.heap[gb3]? = some (.cells #[.slice A5 l0_0.length c5, .slice A21 ys21.length c21, .int .i64 a0_2, .bool a0_3] 25 (0, 0)) := (by rw [hw_]; exact aZ (cs := #[.slice A5 l0_0.length c5, .slice A13 xs13.length c13, .int .i64 a0_2, .bool a0_3]) (cs' := #[.slice A5 l0_0.length c5, .slice A21 ys21.length c21, .int .i64 a0_2, .bool a0_3]) (BK3.out) 1 _ rfl)
  have hsz_ : hi21 ≤ w22.heap.size := Nat.le_trans HT.out hkp.1
  have n0_ := aC.mk (Kd.aY HF0_0.out hkp (fun k_ h1_ h2_ => by have o_ := HORD.out; have t_ := HT.out; (try simp only [In2, Up, In] at h1_ h2_); omega))
  have n1_ := aC.mk (Kd.aY HF0_1.out hkp (fun k_ h1_ h2_ => by have o_ := HORD.out; have t_ := HT.out; (try simp only [In2, Up, In] at h1_ h2_); omega))
  have n2_ := aC.mk (Kd.aY HF5.out hkp (fun k_ h1_ h2_ => by have o_ := HORD.out; have t_ := HT.out; (try simp only [In2, Up, In] at h1_ h2_); omega))
  have n3_ := aC.mk (Kd.bQ HS5.out hkp (fun k_ h1_ h2_ => by have o_ := HORD.out; have t_ := HT.out; (try simp only [In2, Up, In] at h1_ h2_); omega))
  have n4_ := aC.mk (Kd.aY HF14.out hkp (fun k_ h1_ h2_ => by have o_ := HORD.out; have t_ := HT.out; (try simp only [In2, Up, In] at h1_ h2_); omega))
  have n5_ := aC.mk (Kd.aY HF21.out hkp (fun k_ h1_ h2_ => by have o_ := HORD.out; have t_ := HT.out; (try simp only [In2, Up, In] at h1_ h2_); omega))
  have n6_ := aC.mk (Kd.bQ HS21.out hkp (fun k_ h1_ h2_ => by have o_ := HORD.out; have t_ := HT.out; (try simp only [In2, Up, In] at h1_ h2_); omega))
  have n7_ := aC.mk (bA BK1.out hkp (fun h2_ => by have o_ := HORD.out; have t_ := HT.out; (try simp only [In2, Up, In] at h2_); omega))
  have n8_ := aC.mk (bA BK2.out hkp (fun h2_ => by have o_ := HORD.out; have t_ := HT.out; (try simp only [In2, Up, In] at h2_); omega))
  have n9_ := aC.mk (bA BK15.out hkp (fun h2_ => by have o_ := HORD.out; have t_ := HT.out; (try simp only [In2, Up, In] at h2_); omega))
  have n10_ := aC.mk (hbn_)
  have n11_ := aC.mk (hbk_)
  have n12_ := aC.mk (hsz_)
  (try clear HF0_0)
  (try clear HF0_1)
  (try clear HF5)
  (try clear HS5)
  (try clear HF14)
  (try clear HF21)
  (try clear HS21)
  (try clear BK1)
  (try clear BK2)
  (try clear BK15)
  (try clear HB)
  (try clear BK3)
  (try clear HT)
  have HF0_0 := n0_
  have HF0_1 := n1_
  have HF5 := n2_
  have HS5 := n3_
  have HF14 := n4_
  have HF21 := n5_
  have HS21 := n6_
  have BK1 := n7_
  have BK2 := n8_
  have BK15 := n9_
  have HB := n10_
  have BK3 := n11_
  have HT := n12_
  clear n0_ n1_ n2_ n3_ n4_ n5_ n6_ n7_ n8_ n9_ n10_ n11_ n12_
  clear hw_ hkp hge_ hbn_ hbk_ hsz_
  have hzgb1_0_22 : w22.cell? ⟨gb1, 0, none⟩ = some (.slice A0_0 l0_0.length c0_0) := (aD BK1.out 0).trans rfl
  have hygb1_0_22 := aA BK1.out 0
  have hzgb1_1_22 : w22.cell? ⟨gb1, 1, none⟩ = some (.slice (some ad14) l0_1.length c0_1) := (aD BK1.out 1).trans rfl
  have hygb1_1_22 := aA BK1.out 1
  have hzgb1_2_22 : w22.cell? ⟨gb1, 2, none⟩ = some (.int .i64 a0_2) := (aD BK1.out 2).trans rfl
  have hygb1_2_22 := aA BK1.out 2
  have hzgb1_3_22 : w22.cell? ⟨gb1, 3, none⟩ = some (.bool a0_3) := (aD BK1.out 3).trans rfl
  have hygb1_3_22 := aA BK1.out 3
  have hzgb2_0_22 : w22.cell? ⟨gb2, 0, none⟩ = some (.slice none 0 0) := (aD BK2.out 0).trans rfl
  have hygb2_0_22 := aA BK2.out 0
  have hzgb2_1_22 : w22.cell? ⟨gb2, 1, none⟩ = some (.slice none 0 0) := (aD BK2.out 1).trans rfl
  have hygb2_1_22 := aA BK2.out 1
  have hzgb2_2_22 : w22.cell? ⟨gb2, 2, none⟩ = some (.int .i64 0) := (aD BK2.out 2).trans rfl
  have hygb2_2_22 := aA BK2.out 2
  have hzgb2_3_22 : w22.cell? ⟨gb2, 3, none⟩ = some (.bool false) := (aD BK2.out 3).trans rfl
  have hygb2_3_22 := aA BK2.out 3
  have hzgb3_0_22 : w22.cell? ⟨gb3, 0, none⟩ = some (.slice A5 l0_0.length c5) := (aD BK3.out 0).trans rfl
  have hygb3_0_22 := aA BK3.out 0
  have hzgb3_1_22 : w22.cell? ⟨gb3, 1, none⟩ = some (.slice A21 ys21.length c21) := (aD BK3.out 1).trans rfl
  have hygb3_1_22 := aA BK3.out 1
  have hzgb3_2_22 : w22.cell? ⟨gb3, 2, none⟩ = some (.int .i64 a0_2) := (aD BK3.out 2).trans rfl
  have hygb3_2_22 := aA BK3.out 2
  have hzgb3_3_22 : w22.cell? ⟨gb3, 3, none⟩ = some (.bool a0_3) := (aD BK3.out 3).trans rfl
  have hygb3_3_22 := aA BK3.out 3
  have hzgb15_0_22 : w22.cell? ⟨gb15, 0, none⟩ = some (.int .i64 ((rdW l0_1 x13).f0)) := (aD BK15.out 0).trans rfl
  have hygb15_0_22 := aA BK15.out 0
  have hzgb15_1_22 : w22.cell? ⟨gb15, 1, none⟩ = some (.slice Ae14 ((rdW l0_1 x13).f1).length ce14) := (aD BK15.out 1).trans rfl
  have hygb15_1_22 := aA BK15.out 1
  try go_wp2
  go_roundg k1
  case measure => omega
  case rel => exact ⟨i13 + 1, _, _, rfl, ⟨show _ = ((i13 + 1 : Nat) : Int) by have := HI13.out; have hm_ := Kd.F_max HF0_1.out; have := HK13.out; rw [w64 (by omega) (by omega)]; omega⟩, ⟨by have := HK13.out; omega⟩, ⟨Nat.le_trans (by have o_ := HORD.out; omega) HT.out⟩, ⟨by rw [show l0_1.take (i13 + 1) = ys21 from (by rw [HY21.out, HX13.out]; unfold rdW; rw [show x13.toNat = i13 from by have := HI13.out; omega]; exact take_getD _ _ z50 (by have := HK13.out; omega))]; exact Kd.S_mono (Kd.S_lower HS21.out (by have o_ := HORD.out; omega)) (fun k_ hk_ => by have o_ := HORD.out; have t_ := HT.out; (try simp only [In2, Up, In] at hk_ ⊢); omega)⟩, HF0_0, HF0_1, HF5, HS5, BK1, BK2, BK3, HB⟩
 have hi0_ : i13 = l0_1.length := (by have := HK13.out; omega)
 have hd_ : decide (x13 < (l0_1.length : Int)) = false := decide_eq_false (by have := HI13.out; omega)
 have eall_ : xs13 = l0_1 := (by rw [HX13.out, hi0_, List.take_length])
 rw [eall_] at HS13 HF13 HC13 BK3
 have hzgb1_0_22 : wr.cell? ⟨gb1, 0, none⟩ = some (.slice A0_0 l0_0.length c0_0) := (aD BK1.out 0).trans rfl
 have hygb1_0_22 := aA BK1.out 0
 have hzgb1_1_22 : wr.cell? ⟨gb1, 1, none⟩ = some (.slice A0_1 l0_1.length c0_1) := (aD BK1.out 1).trans rfl
 have hygb1_1_22 := aA BK1.out 1
 have hzgb1_2_22 : wr.cell? ⟨gb1, 2, none⟩ = some (.int .i64 a0_2) := (aD BK1.out 2).trans rfl
 have hygb1_2_22 := aA BK1.out 2
 have hzgb1_3_22 : wr.cell? ⟨gb1, 3, none⟩ = some (.bool a0_3) := (aD BK1.out 3).trans rfl
 have hygb1_3_22 := aA BK1.out 3
 have hzgb2_0_22 : wr.cell? ⟨gb2, 0, none⟩ = some (.slice none 0 0) := (aD BK2.out 0).trans rfl
 have hygb2_0_22 := aA BK2.out 0
 have hzgb2_1_22 : wr.cell? ⟨gb2, 1, none⟩ = some (.slice none 0 0) := (aD BK2.out 1).trans rfl
 have hygb2_1_22 := aA BK2.out 1
 have hzgb2_2_22 : wr.cell? ⟨gb2, 2, none⟩ = some (.int .i64 0) := (aD BK2.out 2).trans rfl
 have hygb2_2_22 := aA BK2.out 2
 have hzgb2_3_22 : wr.cell? ⟨gb2, 3, none⟩ = some (.bool false) := (aD BK2.out 3).trans rfl
 have hygb2_3_22 := aA BK2.out 3
 have hzgb3_0_22 : wr.cell? ⟨gb3, 0, none⟩ = some (.slice A5 l0_0.length c5) := (aD BK3.out 0).trans rfl
 have hygb3_0_22 := aA BK3.out 0
 have hzgb3_1_22 : wr.cell? ⟨gb3, 1, none⟩ = some (.slice A13 l0_1.length c13) := (aD BK3.out 1).trans rfl
 have hygb3_1_22 := aA BK3.out 1
 have hzgb3_2_22 : wr.cell? ⟨gb3, 2, none⟩ = some (.int .i64 a0_2) := (aD BK3.out 2).trans rfl
 have hygb3_2_22 := aA BK3.out 2
 have hzgb3_3_22 : wr.cell? ⟨gb3, 3, none⟩ = some (.bool a0_3) := (aD BK3.out 3).trans rfl
 have hygb3_3_22 := aA BK3.out 3
 go_wp2_with (first | ((with_reducible refine bR (t := 25) (p := 2) rfl ?_); refine bP (t := 25) (p := 2) (v := ?vo_w23) (w1 := ((((wr.setCell ⟨gb2, 0, none⟩ (.slice A5 l0_0.length c5)).setCell ⟨gb2, 1, none⟩ (.slice A13 l0_1.length c13)).setCell ⟨gb2, 2, none⟩ (.int .i64 a0_2)).setCell ⟨gb2, 3, none⟩ (.bool a0_3))) ?hg ?ho ?hn ?hr ?_; (case ho => rfl); (case hg => rfl); (case hn => rfl); (case hr => first | (go_simp; done) | (go_simp; rfl)); intro w23 hw_; have hkp : Kept wr w23 (fun k_ => k_ = gb2) := (by rw [hw_]; exact Kept.setCell (Kept.setCell (Kept.setCell (Kept.setCell (Kept.refl wr (fun k_ => k_ = gb2)) (.inl rfl) (.slice A5 l0_0.length c5)) (.inl rfl) (.slice A13 l0_1.length c13)) (.inl rfl) (.int .i64 a0_2)) (.inl rfl) (.bool a0_3)); have hge_ : w.heap.size ≤ gb2 := (by have o_ := HORD.out; (try unfold In at *); (try show _ ≠ _); omega); have hbn_ : Below w.heap.size w w23 := (by rw [hw_]; exact aG (aG (aG (aG (HB.out) hge_) hge_) hge_) hge_); have hbk_ : w23.heap[gb2]? = some (.cells #[.slice A5 l0_0.length c5, .slice A13 l0_1.length c13, .int .i64 a0_2, .bool a0_3] 25 (0, 0)) := (by rw [hw_]; exact aZ (cs := #[.slice A5 l0_0.length c5, .slice A13 l0_1.length c13, .int .i64 a0_2, .bool false]) (cs' := #[.slice A5 l0_0.length c5, .slice A13 l0_1.length c13, .int .i64 a0_2, .bool a0_3]) (aZ (cs := #[.slice A5 l0_0.length c5, .slice A13 l0_1.length c13, .int .i64 0, .bool false]) (cs' := #[.slice A5 l0_0.length c5, .slice A13 l0_1.length c13, .int .i64 a0_2, .bool false]) (aZ (cs := #[.slice A5 l0_0.length c5, .slice none 0 0, .int .i64 0, .bool false]) (cs' := #[.slice A5 l0_0.length c5, .slice A13 l0_1.length c13, .int .i64 0, .bool false]) (aZ (cs := #[.slice none 0 0, .slice none 0 0, .int .i64 0, .bool false]) (cs' := #[.slice A5 l0_0.length c5, .slice none 0 0, .int .i64 0, .bool false]) (BK2.out) 0 _ rfl) 1 _ rfl) 2 _ rfl) 3 _ rfl); have hsz_ : hi13 ≤ w23.heap.size := Nat.le_trans HT.out hkp.1; have n0_ := aC.mk (Kd.aY HF0_0.out hkp (fun k_ h1_ h2_ => by have o_ := HORD.out; have t_ := HT.out; (try simp only [In2, Up, In] at h1_ h2_); omega)); have n1_ := aC.mk (Kd.aY HF0_1.out hkp (fun k_ h1_ h2_ => by have o_ := HORD.out; have t_ := HT.out; (try simp only [In2, Up, In] at h1_ h2_); omega)); have n2_ := aC.mk (Kd.aY HF5.out hkp (fun k_ h1_ h2_ => by have o_ := HORD.out; have t_ := HT.out; (try simp only [In2, Up, In] at h1_ h2_); omega)); have n3_ := aC.mk (Kd.bQ HS5.out hkp (fun k_ h1_ h2_ => by have o_ := HORD.out; have t_ := HT.out; (try simp only [In2, Up, In] at h1_ h2_); omega)); have n4_ := aC.mk (Kd.aY HF13.out hkp (fun k_ h1_ h2_ => by have o_ := HORD.out; have t_ := HT.out; (try simp only [In2, Up, In] at h1_ h2_); omega)); have n5_ := aC.mk (Kd.bQ HS13.out hkp (fun k_ h1_ h2_ => by have o_ := HORD.out; have t_ := HT.out; (try simp only [In2, Up, In] at h1_ h2_); omega)); have n6_ := aC.mk (bA BK1.out hkp (fun h2_ => by have o_ := HORD.out; have t_ := HT.out; (try simp only [In2, Up, In] at h2_); omega)); have n7_ := aC.mk (bA BK3.out hkp (fun h2_ => by have o_ := HORD.out; have t_ := HT.out; (try simp only [In2, Up, In] at h2_); omega)); have n8_ := aC.mk (hbn_); have n9_ := aC.mk (hbk_); have n10_ := aC.mk (hsz_); (try clear HF0_0); (try clear HF0_1); (try clear HF5); (try clear HS5); (try clear HF13); (try clear HS13); (try clear BK1); (try clear BK3); (try clear HB); (try clear BK2); (try clear HT); have HF0_0 := n0_; have HF0_1 := n1_; have HF5 := n2_; have HS5 := n3_; have HF13 := n4_; have HS13 := n5_; have BK1 := n6_; have BK3 := n7_; have HB := n8_; have BK2 := n9_; have HT := n10_; clear n0_ n1_ n2_ n3_ n4_ n5_ n6_ n7_ n8_ n9_ n10_; clear hw_ hkp hge_ hbn_ hbk_ hsz_; have hzgb1_0_23 : w23.cell? ⟨gb1, 0, none⟩ = some (.slice A0_0 l0_0.length c0_0) := (aD BK1.out 0).trans rfl; have hygb1_0_23 := aA BK1.out 0; have hzgb1_1_23 : w23.cell? ⟨gb1, 1, none⟩ = some (.slice A0_1 l0_1.length c0_1) := (aD BK1.out 1).trans rfl; have hygb1_1_23 := aA BK1.out 1; have hzgb1_2_23 : w23.cell? ⟨gb1, 2, none⟩ = some (.int .i64 a0_2) := (aD BK1.out 2).trans rfl; have hygb1_2_23 := aA BK1.out 2; have hzgb1_3_23 : w23.cell? ⟨gb1, 3, none⟩ = some (.bool a0_3) := (aD BK1.out 3).trans rfl; have hygb1_3_23 := aA BK1.out 3; have hzgb2_0_23 : w23.cell? ⟨gb2, 0, none⟩ = some (.slice A5 l0_0.length c5) := (aD BK2.out 0).trans rfl; have hygb2_0_23 := aA BK2.out 0; have hzgb2_1_23 : w23.cell? ⟨gb2, 1, none⟩ = some (.slice A13 l0_1.length c13) := (aD BK2.out 1).trans rfl; have hygb2_1_23 := aA BK2.out 1; have hzgb2_2_23 : w23.cell? ⟨gb2, 2, none⟩ = some (.int .i64 a0_2) := (aD BK2.out 2).trans rfl; have hygb2_2_23 := aA BK2.out 2; have hzgb2_3_23 : w23.cell? ⟨gb2, 3, none⟩ = some (.bool a0_3) := (aD BK2.out 3).trans rfl; have hygb2_3_23 := aA BK2.out 3; have hzgb3_0_23 : w23.cell? ⟨gb3, 0, none⟩ = some (.slice A5 l0_0.length c5) := (aD BK3.out 0).trans rfl; have hygb3_0_23 := aA BK3.out 0; have hzgb3_1_23 : w23.cell? ⟨gb3, 1, none⟩ = some (.slice A13 l0_1.length c13) := (aD BK3.out 1).trans rfl; have hygb3_1_23 := aA BK3.out 1; have hzgb3_2_23 : w23.cell? ⟨gb3, 2, none⟩ = some (.int .i64 a0_2) := (aD BK3.out 2).trans rfl; have hygb3_2_23 := aA BK3.out 2; have hzgb3_3_23 : w23.cell? ⟨gb3, 3, none⟩ = some (.bool a0_3) := (aD BK3.out 3).trans rfl; have hygb3_3_23 := aA BK3.out 3))
 refine bodyPost_ret (fn := Try.f58) (P := Try.prog) (results_cell_row rfl _ _ gb2 25 #[.slice A5 l0_0.length c5, .slice A13 l0_1.length c13, .int .i64 a0_2, .bool a0_3] (0, 0) _ rfl BK2.out Try.underlying25 rfl (by kernel_rfl)) rfl ?_
 first | exact ⟨_, _, hi5, rfl, (by have o_ := HORD.out; omega), (by have o_ := HORD.out; have t_ := HT.out; omega), Kd.S_mono (Kd.S_lower HS5.out (by have o_ := HORD.out; omega)) (fun k_ hk_ => by have o_ := HORD.out; have t_ := HT.out; (try simp only [In2, Up, In] at hk_ ⊢); omega), Kd.S_mono (Kd.S_lower HS13.out (by have o_ := HORD.out; omega)) (fun k_ hk_ => by have o_ := HORD.out; have t_ := HT.out; (try simp only [In2, Up, In] at hk_ ⊢); omega), HB.out⟩ | exact ⟨_, _, rfl, hi5, (by have o_ := HORD.out; omega), (by have o_ := HORD.out; have t_ := HT.out; omega), Kd.S_mono (Kd.S_lower HS5.out (by have o_ := HORD.out; omega)) (fun k_ hk_ => by have o_ := HORD.out; have t_ := HT.out; (try simp only [In2, Up, In] at hk_ ⊢); omega), Kd.S_mono (Kd.S_lower HS13.out (by have o_ := HORD.out; omega)) (fun k_ hk_ => by have o_ := HORD.out; have t_ := HT.out; (try simp only [In2, Up, In] at hk_ ⊢); omega), HB.out⟩
def impl_copyDevS.f (l0_0 : List (List Int)) (l0_1 : List (S50)) (a0_2 : Int) (a0_3 : Bool) : Option (List (List Int) × List (S50) × Int × Bool) := if okDevB l0_0 l0_1 = true then some (l0_0, l0_1, a0_2, a0_3) else none
theorem impl_copyDevS.calls (P0_0_ : Nat → Prop) (A0_0 : Option Addr) (c0_0 : Nat) (l0_0 : List (List Int)) (P0_1_ : Nat → Prop) (A0_1 : Option Addr) (c0_1 : Nat) (l0_1 : List (S50)) (a0_2 : Int) (a0_3 : Bool) (r1 : List (List Int)) (r2 : List (S50)) (r3 : Int) (r4 : Bool) (w : World) (hs0_0 : Kd.V (Kd.slice 5 (Kd.int .u8)) 37 w w.heap.size (fun k_ => P0_0_ k_) (.slice A0_0 l0_0.length c0_0) l0_0) (hs0_1 : Kd.V k50 50 w w.heap.size (fun k_ => P0_1_ k_) (.slice A0_1 l0_1.length c0_1) l0_1) (h : impl_copyDevS.f l0_0 l0_1 a0_2 a0_3 = some (r1, r2, r3, r4)) :
  Calls Try.prog 58 #[.agg #[.slice A0_0 l0_0.length c0_0, .slice A0_1 l0_1.length c0_1, .int .i64 a0_2, .bool a0_3]] w fun e w' => ∃ v0_ v1_ : Value, ∃ m_ : Nat, e = .returned (.agg #[v0_, v1_, .int .i64 r3, .bool r4]) ∧ w.heap.size ≤ m_ ∧ m_ ≤ w'.heap.size ∧ Kd.S (Kd.slice 5 (Kd.int .u8)) 37 w' w.heap.size (In w.heap.size m_) v0_ r1 ∧ Kd.S k50 50 w' w.heap.size (In m_ w'.heap.size) v1_ r2 ∧ Below w.heap.size w w' := by
 obtain ⟨_, hc0_, hf0_⟩ := Kd.V_at hs0_0
 obtain ⟨_, hc1_, hf1_⟩ := Kd.V_at hs0_1
 replace hf0_ := Kd.F_mono (ok' := In 0 w.heap.size) (Kd.F_bound hf0_) (fun k hk => ⟨Nat.zero_le k, hk.2⟩)
 replace hf1_ := Kd.F_mono (ok' := In 0 w.heap.size) (Kd.F_bound hf1_) (fun k hk => ⟨Nat.zero_le k, hk.2⟩)
 unfold impl_copyDevS.f at h
 split at h
 ·rename_i hok
  unfold okDevB at hok
  simp only [Bool.and_eq_true, decide_eq_true_eq] at hok
  obtain ⟨hok0, hok1⟩ := hok
  injection h with h
  simp only [Prod.mk.injEq] at h
  obtain ⟨rfl, rfl, rfl, rfl⟩ := h
  exact walk_copyDev _ _ _ _ _ _ _ _ w hf0_ hc0_ hf1_ hc1_ hok0 hok1
 ·cases h
theorem copyDevS_f {l : List (List Int)} {m : List (S50)} (h : okByteSS l) (h2 : okWrS m) (a : Int) (b : Bool) : impl_copyDevS.f l m a b = some (l, m, a, b) := by
 unfold impl_copyDevS.f okDevB
 unfold okByteSS at h
 unfold okWrS at h2
 rw [if_pos (by simp [h, h2])]
end Go.Proofs.Ytilhcaofpfeioaa.Law
