/- Rows of rows that are marked, row by row: what stands in them behind a mark (plain lists), and that a row that is lent out of a row whose inner rows lie apart may be written and given back; each says its conditions itself. -/
import Derived.Test.YthpfihklkcnckaaCore
import Derived.Test.YthpfihklkcnckaaWApart
import Derived.Test.YthpfihklkcnckaaWKept
import Derived.Test.YthpfihklkcnckaaWN
import Derived.Test.YthpfihklkcnckaaWMore
namespace Go.Proofs.Ythpfihklkcnckaa.Core
open Go.RowKit Go.Proofs.YthpfihklkcnckaaW.PrintWords

/-! Plain lists: each element is marked on from where the one ahead of it stopped. -/
section
variable {α : Type} (mk : α → Int → α) (cnt : α → Int)
def cntL : List α → Int
  | [] => 0
  | x :: xs => cnt x + cntL xs
def mkL : List α → Int → List α
  | [], _ => []
  | x :: xs, a => mk x a :: mkL xs (a + cnt x)
theorem mkL_length : ∀ (l : List α) (a : Int), (mkL mk cnt l a).length = l.length
  | [], _ => rfl
  | x :: xs, a => by simp only [mkL, List.length_cons, mkL_length xs]
theorem cntL_take (z : α) : ∀ (l : List α) (i : Nat), i < l.length → cntL cnt (l.take (i + 1)) = cntL cnt (l.take i) + cnt (l.getD i z)
  | x :: xs, 0, _ => by simp [cntL]
  | x :: xs, i + 1, h => by
    have := cntL_take z xs i (by simpa using h)
    simp only [List.take_succ_cons, cntL, List.getD_cons_succ, this]
    omega
theorem cntL_nn (h : ∀ x, 0 ≤ cnt x) : ∀ l : List α, 0 ≤ cntL cnt l
  | [] => by simp [cntL]
  | x :: xs => by have := cntL_nn h xs; have := h x; simp only [cntL]; omega
theorem cntL_take_le (h : ∀ x, 0 ≤ cnt x) : ∀ (l : List α) (i : Nat), cntL cnt (l.take i) ≤ cntL cnt l
  | [], i => by simp [cntL]
  | x :: xs, 0 => by have := cntL_nn cnt h xs; have := h x; simp only [List.take_zero, cntL]; omega
  | x :: xs, i + 1 => by have := cntL_take_le h xs i; simp only [List.take_succ_cons, cntL]; omega
theorem mkL_getD (z : α) : ∀ (l : List α) (a : Int) (i : Nat), i < l.length → (mkL mk cnt l a).getD i z = mk (l.getD i z) (a + cntL cnt (l.take i))
  | x :: xs, a, 0, _ => by simp [mkL, cntL]
  | x :: xs, a, i + 1, h => by
    have := mkL_getD z xs (a + cnt x) i (by simpa using h)
    simp only [mkL, List.getD_cons_succ, List.take_succ_cons, cntL]
    rw [this]
    congr 1
    omega
/-- The first i are marked. -/
def midL (l : List α) (a : Int) (i : Nat) : List α := (mkL mk cnt l a).take i ++ l.drop i
theorem midL_zero (l : List α) (a : Int) : midL mk cnt l a 0 = l := by simp [midL]
theorem midL_all (l : List α) (a : Int) : midL mk cnt l a l.length = mkL mk cnt l a := by
  simp only [midL, List.drop_length, List.append_nil]
  rw [List.take_of_length_le (by rw [mkL_length]; omega)]
theorem midL_length (l : List α) (a : Int) (i : Nat) (h : i ≤ l.length) : (midL mk cnt l a i).length = l.length := by
  simp only [midL, List.length_append, List.length_take, List.length_drop, mkL_length]
  omega
theorem midL_getElem? (l : List α) (a : Int) (i j : Nat) (h : i ≤ l.length) : (midL mk cnt l a i)[j]? = if j < i then (mkL mk cnt l a)[j]? else l[j]? := by
  have hl : ((mkL mk cnt l a).take i).length = i := by rw [List.length_take, mkL_length]; omega
  unfold midL
  by_cases hj : j < i
  · rw [if_pos hj, List.getElem?_append_left (by omega), List.getElem?_take, if_pos hj]
  · rw [if_neg hj, List.getElem?_append_right (by omega), List.getElem?_drop, hl]
    congr 1
    omega
theorem midL_getD (z : α) (l : List α) (a : Int) (i : Nat) (h : i < l.length) : (midL mk cnt l a i).getD i z = l.getD i z := by
  rw [List.getD_eq_getElem?_getD, List.getD_eq_getElem?_getD, midL_getElem? mk cnt l a i i (by omega), if_neg (by omega)]
theorem midL_set (z : α) (l : List α) (a : Int) (i : Nat) (h : i < l.length) : (midL mk cnt l a i).set i (mk (l.getD i z) (a + cntL cnt (l.take i))) = midL mk cnt l a (i + 1) := by
  apply List.ext_getElem?
  intro j
  rw [List.getElem?_set, midL_length mk cnt l a i (by omega), midL_getElem? mk cnt l a i j (by omega), midL_getElem? mk cnt l a (i + 1) j (by omega)]
  by_cases hj : i = j
  · subst hj
    rw [if_pos rfl, if_pos h, if_pos (by omega), ← mkL_getD mk cnt z l a i h, List.getD_eq_getElem?_getD, List.getElem?_eq_getElem (by rw [mkL_length]; exact h)]
    rfl
  · rw [if_neg hj]
    by_cases h1 : j < i
    · rw [if_pos h1, if_pos (by omega)]
    · rw [if_neg h1, if_neg (by omega)]
end

/-! Memory: which blocks. -/
/-- The blocks from lo on, below hi. -/
def In (lo hi k : Nat) : Prop := lo ≤ k ∧ k < hi
theorem In.off {a b c d : Nat} (h : b ≤ c) : ∀ k, In a b k → ¬ In c d k := fun _ h1 h2 => by unfold In at *; omega
theorem In.off2 {a b c d : Nat} (h : b ≤ c) : ∀ k, In c d k → ¬ In a b k := fun _ h1 h2 => by unfold In at *; omega
namespace Mem
open Kd
section
variable {α : Type} {d : Kd α} {e n m c base lo hi top : Nat} {w w1 W : World} {A : Option Addr} {v : Value} {xs : List α} {ok P : Nat → Prop}
theorem times (hs : top ≤ W.heap.size) (hb : Below W.heap.size W w1) : ∃ lo hi, lo = W.heap.size ∧ hi = w1.heap.size ∧ top ≤ lo ∧ lo ≤ hi := ⟨_, _, rfl, rfl, hs, hb.size⟩
/-- A row that a call has made: its blocks are new since the call's begin, and its value's form. -/
theorem new_R (h : d.R e w1 lo ok v xs) (eh : hi = w1.heap.size) : ∃ A c, v = .slice A xs.length c ∧ xs.length ≤ c ∧ F d w1 (In lo hi) A xs.length xs ∧ d.R e w1 lo (In lo hi) (.slice A xs.length c) xs := by
  subst eh
  obtain ⟨A, c, rfl, hl, _⟩ := R_reads h
  have h2 : d.R e w1 lo (In lo w1.heap.size) (.slice A xs.length c) xs := R_mono (R_bound h) (fun k hk => ⟨hk.2.1, hk.2.2.1⟩)
  exact ⟨A, c, rfl, hl, R_F h2, h2⟩
theorem new_S (h : Kd.S d e w1 lo ok v xs) (eh : hi = w1.heap.size) : ∃ A c, v = .slice A xs.length c ∧ xs.length ≤ c ∧ F d w1 (In lo hi) A xs.length xs ∧ Kd.S d e w1 lo (In lo hi) (.slice A xs.length c) xs := by
  subst eh
  obtain ⟨A, c, rfl, hl, _⟩ := S_reads h
  have h2 : Kd.S d e w1 lo (In lo w1.heap.size) (.slice A xs.length c) xs := S_mono (S_bound h) (fun k hk => ⟨hk.2.1, hk.2.2.1⟩)
  exact ⟨A, c, rfl, hl, S_F h2, h2⟩
theorem new_SI (h : Kd.S d e w1 lo (In lo hi) v xs) : ∃ A c, v = .slice A xs.length c ∧ xs.length ≤ c ∧ F d w1 (In lo hi) A xs.length xs ∧ Kd.S d e w1 lo (In lo hi) (.slice A xs.length c) xs := by
  obtain ⟨A, c, rfl, hl, _⟩ := S_reads h
  exact ⟨A, c, rfl, hl, S_F h, h⟩
theorem new_N (h : Kd.N d e w1 lo (fun k_ => lo ≤ k_) v xs) (eh : hi = w1.heap.size) : ∃ A c, v = .slice A xs.length c ∧ xs.length ≤ c ∧ F d w1 (In lo hi) A xs.length xs := by
  subst eh
  obtain ⟨A, c, rfl, hl, _⟩ := N_reads h
  exact ⟨A, c, rfl, hl, F_mono (F_bound (N_F h)) (fun k hk => ⟨hk.1, hk.2⟩)⟩
/-- A row that was marked. -/
theorem back_R {h2 : Nat} (h : d.R e w1 base (fun k => In lo hi k ∨ n ≤ k) (.slice A m c) xs) (hl : lo ≤ n) (eh : h2 = w1.heap.size) : m = xs.length ∧ xs.length ≤ c ∧ F d w1 (In lo h2) A xs.length xs := by
  subst eh
  obtain ⟨h1, h3, _⟩ := R_reads' h
  subst h1
  exact ⟨rfl, h3, F_mono (F_bound (R_F h)) (fun k hk => ⟨hk.1.elim (fun h4 => h4.1) (fun h4 => Nat.le_trans hl h4), hk.2⟩)⟩
theorem back_S {h2 : Nat} (h : Kd.S d e w1 base (fun k => In lo hi k ∨ n ≤ k) (.slice A m c) xs) (hl : lo ≤ n) (eh : h2 = w1.heap.size) : m = xs.length ∧ xs.length ≤ c ∧ F d w1 (In lo h2) A xs.length xs := back_R (S_R h) hl eh
end
theorem back_V {α : Type} {d : Kd α} {e m c base lo : Nat} {w1 : World} {A : Option Addr} {xs : List α} {ok : Nat → Prop} {h2 : Nat} (h : Kd.V d e w1 base ok (.slice A m c) xs) (hl : ∀ k, ok k → lo ≤ k) (eh : h2 = w1.heap.size) : m = xs.length ∧ xs.length ≤ c ∧ Kd.F d w1 (In lo h2) A xs.length xs := by
  subst eh
  obtain ⟨A', c', e, hc, hf⟩ := h
  injection e with e1 e2 e3
  subst e1
  subst e2
  subst e3
  exact ⟨rfl, hc, Kd.F_mono (Kd.F_bound hf) (fun k hk => ⟨hl k hk.1, hk.2⟩)⟩
/-- A row out of a row of rows: it may be written, and is given back. -/
theorem lent {α : Type} {d : Kd α} {e e2 g n cap base : Nat} {P : Nat → Prop} {W : World} {xs : List (List α)} (h : Kd.S (Kd.slice e d) e2 W base P (.slice (some ⟨g, 0, none⟩) n cap) xs) (i : Int) (h0 : 0 ≤ i) (h1 : i < n) (hnew : ∀ k, W.heap.size ≤ k → P k) :
    ∃ (oki : Nat → Prop) (v : Value), (∀ k, oki k → P k) ∧ d.R e W base oki v (xs.getD i.toNat []) ∧ W.cell? ⟨g, i.toNat, none⟩ = some v ∧
      ∀ (w1 : World) (x' : List α), Kept W w1 oki → d.R e w1 base (fun k => oki k ∨ W.heap.size ≤ k) v x' → Kd.S (Kd.slice e d) e2 w1 base P (.slice (some ⟨g, 0, none⟩) n cap) (xs.set i.toNat x') := by
  obtain ⟨oki, c, hcl, hM, hcc, hoki, hH⟩ := S_lend h [] i h0 h1
  obtain ⟨v, rfl, hR⟩ := hM
  refine ⟨oki, v, fun k hk => (hoki k hk).1, hR, ?_, fun w1 x' hk hR' => ?_⟩
  · have := hcc 0 v rfl
    simpa [show (Kd.slice e d).sz = 1 from rfl] using this
  · refine H_back (H_step (H_widen hH) (fun k ho hn hlt => hk.2 k hlt (fun h2 => hn (.inl h2)))) (okp := fun k => oki k ∨ W.heap.size ≤ k) ⟨v, rfl, hR'⟩ (fun k hk' => ?_)
    rcases hk' with hk' | hk'
    · exact .inl hk'
    · exact .inr ⟨hnew k hk', hk'⟩
end Mem
end Go.Proofs.Ythpfihklkcnckaa.Core
