/- Plain lemmas on rounds, on rows that are filled from the left, and on whole numbers of 64 bits; each says its conditions itself. -/
import Derived.Test.YthpfihklkcnckaaWWords
import Derived.IntWalk
import Derived.Laws.BitsLemmas
namespace Go.Proofs.Ythpfihklkcnckaa.Core
open Go.RowKit Go.Proofs.YthpfihklkcnckaaW.PrintWords

theorem w64 {x : Int} (h0 : -9223372036854775808 ≤ x) (h1 : x ≤ 9223372036854775807) : wrap64 x = x := by unfold wrap64; omega
theorem w64s (n : Nat) (h : n ≤ 4611686018427387904) : wrap64 ((n : Int) + 1) = ((n + 1 : Nat) : Int) := by unfold wrap64; omega

theorem evOf {α : Type} {g : Nat → Option α} {r : α} (h : ∀ k, g k = some r) : Ev g r := ⟨0, fun k _ => h k⟩
theorem evGet {α : Type} {g : Nat → Option α} {r : α} (h : Ev g r) : ∃ k, g k = some r := by
  obtain ⟨K, h⟩ := h
  exact ⟨K, h K (Nat.le_refl _)⟩
/-- One round at least. -/
theorem evSucc {α : Type} {g : Nat → Option α} {r : α} (h : ∃ K d, ∀ k, K ≤ k → g (k + d) = some r) : Ev g r := by
  obtain ⟨K, d, h⟩ := h
  refine ⟨K + d, fun k hk => ?_⟩
  obtain ⟨m, rfl⟩ : ∃ m, k = m + d := ⟨k - d, by omega⟩
  exact h m (by omega)

/-- A loop over a measure. -/
theorem evLoop {σ ρ : Type} (l : Nat → σ → Option ρ) (Inv : σ → Prop) (M : σ → ρ) (m : σ → Nat)
    (h : ∀ s, Inv s → (∃ s', Inv s' ∧ m s' < m s ∧ M s' = M s ∧ ∃ K d, ∀ k, K ≤ k → l (k + d) s = l k s') ∨ (∃ K d, ∀ k, K ≤ k → l (k + d) s = some (M s))) :
    ∀ s, Inv s → Ev (fun k => l k s) (M s) := by
  have key : ∀ n s, m s < n → Inv s → Ev (fun k => l k s) (M s) := by
    intro n
    induction n with
    | zero => intro s hs; omega
    | succ n ih =>
      intro s hs hi
      rcases h s hi with ⟨s', hi', hm, hM, K, d, hk⟩ | hk
      · obtain ⟨K', h'⟩ := ih s' (by omega) hi'
        refine evSucc ⟨K + K', d, fun k hk' => ?_⟩
        show l (k + d) s = _
        rw [hk k (by omega), ← hM]
        exact h' k (by omega)
      · exact evSucc hk
  intro s hi
  exact key (m s + 1) s (by omega) hi

/-- A loop that counts up to n. -/
theorem evRange {σ ρ : Type} (n : Nat) (l : Nat → σ → Int → Option ρ) (Inv : Nat → σ → Prop) (M : Nat → σ → ρ)
    (step : ∀ i s, i < n → Inv i s → (∃ s', Inv (i + 1) s' ∧ M (i + 1) s' = M i s ∧ ∃ K d, ∀ k, K ≤ k → l (k + d) s (i : Int) = l k s' ((i + 1 : Nat) : Int)) ∨ (∃ K d, ∀ k, K ≤ k → l (k + d) s (i : Int) = some (M i s)))
    (done : ∀ s, Inv n s → ∃ K d, ∀ k, K ≤ k → l (k + d) s (n : Int) = some (M n s)) :
    ∀ i s, i ≤ n → Inv i s → Ev (fun k => l k s (i : Int)) (M i s) := by
  have key : ∀ d i s, n - i = d → i ≤ n → Inv i s → Ev (fun k => l k s (i : Int)) (M i s) := by
    intro d
    induction d with
    | zero =>
      intro i s hd hi hinv
      obtain rfl : i = n := by omega
      exact evSucc (done s hinv)
    | succ d ih =>
      intro i s hd hi hinv
      rcases step i s (by omega) hinv with ⟨s', hinv', hM, K, e, h⟩ | h
      · obtain ⟨K', h'⟩ := ih (i + 1) s' (by omega) (by omega) hinv'
        refine evSucc ⟨K + K', e, fun k hk' => ?_⟩
        show l (k + e) s i = _
        rw [h k (by omega), ← hM]
        exact h' k (by omega)
      · exact evSucc h
  exact fun i s hi => key _ i s rfl hi

/-- From 0 on. -/
theorem evRange0 {σ ρ : Type} (n : Nat) (l : Nat → σ → Int → Option ρ) (Inv : Nat → σ → Prop) (M : Nat → σ → ρ) (s : σ) (h0 : Inv 0 s)
    (step : ∀ i s, i < n → Inv i s → (∃ s', Inv (i + 1) s' ∧ M (i + 1) s' = M i s ∧ ∃ K d, ∀ k, K ≤ k → l (k + d) s (i : Int) = l k s' ((i + 1 : Nat) : Int)) ∨ (∃ K d, ∀ k, K ≤ k → l (k + d) s (i : Int) = some (M i s)))
    (done : ∀ s, Inv n s → ∃ K d, ∀ k, K ≤ k → l (k + d) s (n : Int) = some (M n s)) :
    Ev (fun k => l k s 0) (M 0 s) := evRange n l Inv M step done 0 s (Nat.zero_le _) h0

/-- A loop that counts up to n and answers something of a kind. -/
theorem evRangeEx {σ ρ : Type} (n : Nat) (l : Nat → σ → Int → Option ρ) (Inv : Nat → σ → Prop) (Post : ρ → Prop)
    (step : ∀ i s, i < n → Inv i s → (∃ s', Inv (i + 1) s' ∧ ∃ K d, ∀ k, K ≤ k → l (k + d) s (i : Int) = l k s' ((i + 1 : Nat) : Int)) ∨ (∃ r, Post r ∧ ∃ K d, ∀ k, K ≤ k → l (k + d) s (i : Int) = some r))
    (done : ∀ s, Inv n s → ∃ r, Post r ∧ ∃ K d, ∀ k, K ≤ k → l (k + d) s (n : Int) = some r) :
    ∀ i s, i ≤ n → Inv i s → ∃ r, Post r ∧ Ev (fun k => l k s (i : Int)) r := by
  have key : ∀ d i s, n - i = d → i ≤ n → Inv i s → ∃ r, Post r ∧ Ev (fun k => l k s (i : Int)) r := by
    intro d
    induction d with
    | zero =>
      intro i s hd hi hinv
      obtain rfl : i = n := by omega
      obtain ⟨r, hp, h⟩ := done s hinv
      exact ⟨r, hp, evSucc h⟩
    | succ d ih =>
      intro i s hd hi hinv
      rcases step i s (by omega) hinv with ⟨s', hinv', K, e, h⟩ | ⟨r, hp, h⟩
      · obtain ⟨r, hp, K', h'⟩ := ih (i + 1) s' (by omega) (by omega) hinv'
        refine ⟨r, hp, evSucc ⟨K + K', e, fun k hk' => ?_⟩⟩
        show l (k + e) s i = _
        rw [h k (by omega)]
        exact h' k (by omega)
      · exact ⟨r, hp, evSucc h⟩
  exact fun i s hi => key _ i s rfl hi

/-! All of i, .., n - 1. -/
def allFrom (p : Nat → Bool) (n i : Nat) : Bool := (List.range' i (n - i)).all p
theorem allFrom_lt {p : Nat → Bool} {n i : Nat} (h : i < n) : allFrom p n i = (p i && allFrom p n (i + 1)) := by
  unfold allFrom
  rw [show n - i = (n - (i + 1)) + 1 by omega, List.range'_succ, List.all_cons]
theorem allFrom_end (p : Nat → Bool) (n : Nat) : allFrom p n n = true := by simp [allFrom]
theorem allFrom_iff {p : Nat → Bool} {n i : Nat} : allFrom p n i = true ↔ ∀ j, i ≤ j → j < n → p j = true := by
  simp only [allFrom, List.all_eq_true, List.mem_range'_1]
  constructor
  · intro h j h1 h2; exact h j ⟨h1, by omega⟩
  · intro h j hj; exact h j hj.1 (by omega)
theorem evAll (n : Nat) (l : Nat → Int → Option Bool) (p : Nat → Bool) (fin : Bool)
    (step : ∀ i, i < n → ∃ K d, ∀ k, K ≤ k → l (k + d) (i : Int) = if p i = true then l k ((i + 1 : Nat) : Int) else some false)
    (done : ∃ K d, ∀ k, K ≤ k → l (k + d) (n : Int) = some fin) (i : Nat) (hi : i ≤ n) : Ev (fun k => l k (i : Int)) (allFrom p n i && fin) := by
  refine evRange (σ := Unit) n (fun k _ i => l k i) (fun _ _ => True) (fun i _ => allFrom p n i && fin) ?_ ?_ i () hi trivial
  · intro i _ hi _
    obtain ⟨K, d, h⟩ := step i hi
    cases hp : p i with
    | true => exact .inl ⟨(), trivial, by simp [allFrom_lt hi, hp], K, d, fun k hk => by simp only [h k hk, hp, if_true]⟩
    | false => exact .inr ⟨K, d, fun k hk => by simp only [h k hk, hp, allFrom_lt hi, Bool.false_and]; rfl⟩
  · intro _ _
    obtain ⟨K, d, h⟩ := done
    exact ⟨K, d, fun k hk => by rw [h k hk, allFrom_end, Bool.true_and]⟩

/-! Rows that are filled from the left. -/
def fill {β : Type} (c : Nat → β) (l : List β) (i : Nat) : List β := (List.range i).map c ++ l.drop i
theorem fill_zero {β : Type} (c : Nat → β) (l : List β) : fill c l 0 = l := by simp [fill]
theorem fill_length {β : Type} (c : Nat → β) (l : List β) (i : Nat) (h : i ≤ l.length) : (fill c l i).length = l.length := by simp [fill]; omega
theorem fill_all {β : Type} (c : Nat → β) (l : List β) : fill c l l.length = (List.range l.length).map c := by simp [fill]
theorem fill_getElem? {β : Type} (c : Nat → β) (l : List β) (i j : Nat) : (fill c l i)[j]? = if j < i then some (c j) else l[j]? := by
  unfold fill
  by_cases h : j < i
  · rw [if_pos h, List.getElem?_append_left (by simpa using h)]; simp [h]
  · rw [if_neg h, List.getElem?_append_right (by simp; omega), List.getElem?_drop]; simp; congr 1; omega
theorem fill_set {β : Type} (c : Nat → β) (l : List β) (i : Nat) (h : i < l.length) {v : β} (hv : v = c i) : (fill c l i).set i v = fill c l (i + 1) := by
  subst hv
  apply List.ext_getElem?
  intro j
  rw [List.getElem?_set, fill_getElem?, fill_getElem?, fill_length c l i (by omega)]
  by_cases e : i = j
  · subst e; simp [h]
  · rw [if_neg e]
    by_cases h1 : j < i
    · rw [if_pos h1, if_pos (by omega)]
    · rw [if_neg h1, if_neg (by omega)]
theorem fill_getD {β : Type} (c : Nat → β) (l : List β) (i : Nat) (z : β) : (fill c l i).getD i z = l.getD i z := by
  rw [List.getD_eq_getElem?_getD, List.getD_eq_getElem?_getD, fill_getElem?, if_neg (by omega)]
theorem range_getD {β : Type} (c : Nat → β) (n i : Nat) (z : β) (h : i < n) : ((List.range n).map c).getD i z = c i := by
  rw [List.getD_eq_getElem?_getD]; simp [h]
theorem range_map {α β : Type} (f : α → β) (l : List α) (z : α) : (List.range l.length).map (fun i => f (l.getD i z)) = l.map f := by
  apply List.ext_getElem?
  intro j
  by_cases h : j < l.length
  · simp [h]
  · simp [h]
theorem range_id {α : Type} (l : List α) (z : α) : (List.range l.length).map (fun i => l.getD i z) = l := by
  rw [range_map (fun x => x)]; simp
theorem drop_getD {α : Type} (l : List α) (i : Nat) (z : α) (h : i < l.length) : l.drop i = l.getD i z :: l.drop (i + 1) := by
  rw [List.drop_eq_getElem_cons h, List.getD_eq_getElem?_getD, List.getElem?_eq_getElem h]; rfl
theorem take_getD {α : Type} (l : List α) (i : Nat) (z : α) (h : i < l.length) : l.take (i + 1) = l.take i ++ [l.getD i z] := by
  rw [List.take_succ_eq_append_getElem h, List.getD_eq_getElem?_getD, List.getElem?_eq_getElem h]; rfl
theorem getD_mem {α : Type} (l : List α) (i : Nat) (z : α) (h : i < l.length) : l.getD i z ∈ l := by
  rw [List.getD_eq_getElem?_getD, List.getElem?_eq_getElem h]; exact List.getElem_mem h
theorem rd_nat (l : List Int) (i : Nat) : rd l (i : Int) = l.getD i 0 := by simp [rd]

/-! Bits. -/
theorem and255 (x : Int) : Go.bits .and .i64 x 255 = x % 256 := by
  have e : (BitVec.ofInt IntKind.i64.bits x &&& BitVec.ofInt IntKind.i64.bits 255).toNat = (x % 256).toNat := by
    rw [BitVec.toNat_and, BitVec.toNat_ofInt, BitVec.toNat_ofInt]
    have h2 : ((255 : Int) % ((2 ^ IntKind.i64.bits : Nat) : Int)).toNat = 2 ^ 8 - 1 := by decide
    rw [h2, Nat.and_two_pow_sub_one_eq_mod]
    have h3 : ((2 ^ IntKind.i64.bits : Nat) : Int) = 18446744073709551616 := by decide
    rw [h3]
    omega
  unfold Go.bits
  simp only [e]
  rw [IntKind.wrap_i64]
  omega
theorem and1 (x : Int) : Go.bits .and .i64 x 1 = x % 2 := by
  have e : (BitVec.ofInt IntKind.i64.bits x &&& BitVec.ofInt IntKind.i64.bits 1).toNat = (x % 2).toNat := by
    rw [BitVec.toNat_and, BitVec.toNat_ofInt, BitVec.toNat_ofInt]
    have h2 : ((1 : Int) % ((2 ^ IntKind.i64.bits : Nat) : Int)).toNat = 2 ^ 1 - 1 := by decide
    rw [h2, Nat.and_two_pow_sub_one_eq_mod]
    have h3 : ((2 ^ IntKind.i64.bits : Nat) : Int) = 18446744073709551616 := by decide
    rw [h3]
    omega
  unfold Go.bits
  simp only [e]
  rw [IntKind.wrap_i64]
  omega
theorem xorN (a b : Nat) (ha : a < 2 ^ 32) (hb : b < 2 ^ 32) : Go.bits .xor .i64 (a : Int) (b : Int) = ((a ^^^ b : Nat) : Int) := by
  have hx : a ^^^ b < 2 ^ 32 := Nat.xor_lt_two_pow ha hb
  have e : (BitVec.ofInt IntKind.i64.bits (a : Int) ^^^ BitVec.ofInt IntKind.i64.bits (b : Int)).toNat = a ^^^ b := by
    rw [BitVec.toNat_xor, BitVec.ofInt_natCast, BitVec.ofInt_natCast, BitVec.toNat_ofNat, BitVec.toNat_ofNat]
    have h3 : 2 ^ IntKind.i64.bits = 18446744073709551616 := by decide
    rw [h3, Nat.mod_eq_of_lt (by omega), Nat.mod_eq_of_lt (by omega)]
  unfold Go.bits
  simp only [e]
  rw [IntKind.wrap_i64]
  omega
theorem orW {a b : Int} (ha : 0 ≤ a ∧ a ≤ 255) (hb : 0 ≤ b ∧ b ≤ 255) : Go.bits .or .i64 (wrap64 ((wrap64 a) * 256)) (wrap64 b) = a * 256 + b := by
  rw [w64 (x := a) (by omega) (by omega), w64 (x := b) (by omega) (by omega), w64 (x := a * 256) (by omega) (by omega)]
  exact bits_join .i64 32 (by decide) (fun n h0 h1 => by rw [IntKind.wrap_i64]; omega) 8 (a * 256) b (by omega) (by omega) (by omega) (by omega) (by omega) (by omega)

theorem xor8 (a b : Nat) (ha : a < 256) (hb : b < 256) : Go.bits .xor .u8 (a : Int) (b : Int) = ((a ^^^ b : Nat) : Int) := by
  have hx : a ^^^ b < 2 ^ 8 := Nat.xor_lt_two_pow (by omega) (by omega)
  have e : (BitVec.ofInt IntKind.u8.bits (a : Int) ^^^ BitVec.ofInt IntKind.u8.bits (b : Int)).toNat = a ^^^ b := by
    rw [BitVec.toNat_xor, BitVec.ofInt_natCast, BitVec.ofInt_natCast, BitVec.toNat_ofNat, BitVec.toNat_ofNat]
    have h3 : 2 ^ IntKind.u8.bits = 256 := by decide
    rw [h3, Nat.mod_eq_of_lt (by omega), Nat.mod_eq_of_lt (by omega)]
  unfold Go.bits
  simp only [e]
  rw [IntKind.wrap_u8]
  omega
theorem and30 (x : Int) : 0 ≤ Go.bits .and .i64 x 1073741823 ∧ Go.bits .and .i64 x 1073741823 ≤ 1073741823 := by
  have e : (BitVec.ofInt IntKind.i64.bits x &&& BitVec.ofInt IntKind.i64.bits 1073741823).toNat ≤ 1073741823 := by
    rw [BitVec.toNat_and]
    refine Nat.le_trans Nat.and_le_right ?_
    decide
  unfold Go.bits
  simp only
  rw [IntKind.wrap_i64]
  omega

/-! Numbers of one kind. -/
theorem wf_u8 {x : Int} (h : (Lit.int .u8 x).wf = true) : 0 ≤ x ∧ x ≤ 255 := by
  simp only [Lit.wf, IntKind.min, IntKind.max, Bool.and_eq_true] at h
  simpa [IntKind.bits, IntKind.signed] using h
theorem wf_i64 {x : Int} (h : (Lit.int .i64 x).wf = true) : -9223372036854775808 ≤ x ∧ x ≤ 9223372036854775807 := by
  simp only [Lit.wf, IntKind.min, IntKind.max, Bool.and_eq_true] at h
  simpa [IntKind.bits, IntKind.signed] using h
end Go.Proofs.Ythpfihklkcnckaa.Core
