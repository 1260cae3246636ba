/- Whatever the arguments: the law answers true; said of the plain functions that the print made of the Go text, with no condition but that the arguments are of their kinds. -/
import Derived.Test.YtkaoiaolbhklnaaMFnExactGetKeyx0
import Derived.Test.YtkaoiaolbhklnaaMFnExactGetKeyx1
import Derived.Test.YtkaoiaolbhklnaaMFnExactGetKeyx2
import Derived.Test.YtkaoiaolbhklnaaMFnExactGetKeyx3
import Derived.Test.YtkaoiaolbhklnaaMFnExactGetKeyx4
import Derived.Test.YtkaoiaolbhklnaaCore
namespace Go.Proofs.Ytkaoiaolbhklnaa.Pure
open Go.RowKit Go.Proofs.Ytkaoiaolbhklnaa.PFnExactGetKey Go.Proofs.Ytkaoiaolbhklnaa.Core Go.Proofs.YtkaoiaolbhklnaaW.PrintWords Go.Proofs.YtkaoiaolbhklnaaW.PrintLast
set_option linter.unusedSimpArgs false
set_option linter.unusedVariables false

def okByteS (l : List Int) : Prop := l.length ≤ 4194304
def cntByteS (l : List Int) : Int := l.length
theorem cntByteS_nn {l : List Int} (h : okByteS l) : 0 ≤ cntByteS l ∧ cntByteS l ≤ 1073741824 := by unfold okByteS at h; unfold cntByteS; omega
def inByteS (l : List Int) : Prop := l.length ≤ 1048576
theorem ok_of_inByteS {l : List Int} (h : inByteS l) : okByteS l := by unfold inByteS at h; unfold okByteS; omega
def sumByteS (l : List Int) : Int := l.length
theorem sumByteS_nn (l : List Int) : 0 ≤ sumByteS l := by unfold sumByteS; omega
theorem in_of_sumByteS {l : List Int} (h : sumByteS l ≤ 1048576) : inByteS l := by unfold sumByteS at h; unfold inByteS; omega

theorem toByteS_ev (l : List Int) (hi : inByteS l) : Ev (fun k => laws_toByteS.f k l) l := by
  have h : l.length ≤ 1048576 := hi
  have hl : ∀ i, i ≤ l.length → (fill (fun i => l.getD i 0) (List.replicate l.length (0 : Int)) i).length = l.length := fun i hi => by rw [fill_length _ _ _ (by simpa using hi)]; simp
  obtain ⟨K, hk⟩ := evRange0 (σ := List Int) l.length (fun k s i => laws_toByteS.l0 k l s i) (fun i s => s = fill (fun i => l.getD i 0) (List.replicate l.length (0 : Int)) i) (fun _ _ => l) (List.replicate l.length (0 : Int)) (fill_zero _ _).symm
    (by
      intro i s hi hs
      subst hs
      refine .inl ⟨_, rfl, rfl, 0, 1, fun k _ => ?_⟩
      have h1 := hl i (by omega)
      simp only [laws_toByteS.l0]
      rw [if_pos (by omega), if_pos (by omega), if_pos (by omega), w64s i (by omega), Int.toNat_natCast, fill_set _ _ _ (by simpa using hi) (rd_nat l i)])
    (by
      intro s hs
      subst hs
      refine ⟨0, 1, fun k _ => ?_⟩
      simp only [laws_toByteS.l0]
      rw [if_neg (by omega)]
      have := fill_all (fun i => l.getD i 0) (List.replicate l.length (0 : Int))
      rw [List.length_replicate] at this
      rw [this, range_id])
  refine ⟨K, fun k hk' => ?_⟩
  simp only [laws_toByteS.f]
  rw [if_pos (by omega), if_pos (by omega)]
  have e := hk k hk'
  simpa using e

theorem eqByteS_ev (l : List Int) (ho : okByteS l) : Ev (fun k => laws_eqByteS.f k l l) true := by
  have h : l.length ≤ 4194304 := ho
  obtain ⟨K, hk⟩ := evRange0 (σ := Unit) l.length (fun k _ i => laws_eqByteS.l0 k l l i) (fun _ _ => True) (fun _ _ => true) () trivial
    (by
      intro i _ hi _
      refine .inl ⟨(), trivial, rfl, 0, 1, fun k _ => ?_⟩
      simp only [laws_eqByteS.l0]
      rw [if_pos (by omega), if_pos (by omega), if_pos (by omega), if_pos trivial, w64s i (by omega)])
    (by
      intro _ _
      refine ⟨0, 1, fun k _ => ?_⟩
      simp only [laws_eqByteS.l0]
      rw [if_neg (by omega)])
  refine ⟨K, fun k hk' => ?_⟩
  simp only [laws_eqByteS.f]
  rw [if_pos trivial]
  exact hk k hk'

theorem spec_l1In_f (a b c : Int) : spec_l1In.f a b c = some (decide (b ≤ a ∧ a ≤ c)) := by
  unfold spec_l1In.f
  by_cases h : a ≥ b
  · rw [if_pos h]; congr 1; rw [Bool.eq_iff_iff]; simp; omega
  · rw [if_neg h]; congr 1; rw [Bool.eq_iff_iff]; simp; omega

/-! A key: five numbers. -/
def keyOk5 (a b c d e : Int) : Bool := decide (0 ≤ a ∧ a ≤ 15) && (decide (1 ≤ b ∧ b ≤ 60) && (decide (0 ≤ c ∧ c ≤ 2) && if c = 1 then decide (0 ≤ d ∧ d ≤ 23) && decide (0 ≤ e ∧ e ≤ 999) else decide (d = 0) && decide (e = 0)))

theorem spec_KeyOk_ev (a b c d e : Int) : Ev (fun k => spec_KeyOk.f k a b c d e) (keyOk5 a b c d e) := by
  refine evSucc ⟨0, 1, fun k _ => ?_⟩
  simp only [spec_KeyOk.f, spec_l1In_f, Option.bind_some, spec_KeyOk.j0, keyOk5]
  cases h0 : decide (0 ≤ a ∧ a ≤ 15) <;> cases h1 : decide (1 ≤ b ∧ b ≤ 60) <;> cases h2 : decide (0 ≤ c ∧ c ≤ 2) <;> simp only [Bool.false_and, Bool.true_and, Bool.false_eq_true, if_true, if_false, Bool.not_true, Bool.not_false]
  by_cases h3 : c = 1
  · rw [if_pos h3, if_pos h3]
    cases h4 : decide (0 ≤ d ∧ d ≤ 23) <;> simp only [Bool.false_and, Bool.true_and, Bool.false_eq_true, if_true, if_false]
  · rw [if_neg h3, if_neg h3]
    by_cases h4 : d = 0
    · rw [if_pos h4]; simp [h4]; rw [Bool.eq_iff_iff]; simp
    · rw [if_neg h4]; simp [h4]

def bytesIn (l : List Int) : Prop := ∀ x ∈ l, 0 ≤ x ∧ x ≤ 255
theorem bytesIn_at {l : List Int} (h : bytesIn l) (i : Nat) : 0 ≤ l.getD i 0 ∧ l.getD i 0 ≤ 255 := by
  by_cases hi : i < l.length
  · exact h _ (getD_mem l i 0 hi)
  · rw [List.getD_eq_getElem?_getD, List.getElem?_eq_none (by omega)]; decide
def getW (l : List Int) (a : Int) : Int × Int × Bool := if 0 ≤ a ∧ a ≤ (l.length : Int) - 2 then (l.getD a.toNat 0 * 256 + l.getD (a.toNat + 1) 0, a + 2, true) else (0, 0, false)

theorem spec_GetW_ev (l : List Int) (a : Int) (h : l.length ≤ 4194304) (hb : bytesIn l) (ha : -9223372036854775808 ≤ a ∧ a ≤ 9223372036854775807) : spec_GetW.f l a = some (getW l a) := by
  unfold spec_GetW.f getW
  rw [w64 (x := (l.length : Int) - 2) (by omega) (by omega), spec_l1In_f]
  simp only [Option.bind_some, decide_eq_true_eq]
  by_cases c : 0 ≤ a ∧ a ≤ (l.length : Int) - 2
  · rw [if_pos c, if_pos c, if_pos c.1, if_pos (by omega), w64 (x := a + 1) (by omega) (by omega), if_pos (by omega), if_pos (by omega), w64 (x := a + 2) (by omega) (by omega)]
    have e1 : rd l a = l.getD a.toNat 0 := rfl
    have e2 : rd l (a + 1) = l.getD (a.toNat + 1) 0 := by unfold rd; congr 1; omega
    rw [e1, e2, orW (bytesIn_at hb _) (bytesIn_at hb _)]
  · rw [if_neg c, if_neg c]

theorem impl_GetW_ev (l : List Int) (a : Int) (h : l.length ≤ 4194304) (hb : bytesIn l) (ha : -9223372036854775808 ≤ a ∧ a ≤ 9223372036854775807) : impl_GetW.f l a = some (getW l a) := by
  unfold impl_GetW.f getW
  rw [w64 (x := (l.length : Int) - 2) (by omega) (by omega)]
  by_cases c : 0 ≤ a ∧ a ≤ (l.length : Int) - 2
  · rw [if_pos c, if_neg (by omega), if_neg (by omega), if_pos c.1, if_pos (by omega), w64 (x := a + 1) (by omega) (by omega), if_pos (by omega), if_pos (by omega), w64 (x := a + 2) (by omega) (by omega)]
    have e1 : rd l a = l.getD a.toNat 0 := rfl
    have e2 : rd l (a + 1) = l.getD (a.toNat + 1) 0 := by unfold rd; congr 1; omega
    rw [e1, e2, orW (bytesIn_at hb _) (bytesIn_at hb _)]
  · rw [if_neg c]
    by_cases c1 : a < 0
    · rw [if_pos c1]
    · rw [if_neg c1, if_pos (by omega)]

def getKey (l : List Int) (a : Int) : Int × Int × Int × Int × Int × Int × Bool :=
  if (0 ≤ a ∧ a ≤ (l.length : Int) - 6) ∧ keyOk5 (rd l a) (rd l (a + 1)) (rd l (a + 2)) (rd l (a + 3)) (rd l (a + 4) * 256 + rd l (a + 5)) = true then (rd l a, rd l (a + 1), rd l (a + 2), rd l (a + 3), rd l (a + 4) * 256 + rd l (a + 5), a + 6, true) else (0, 0, 0, 0, 0, 0, false)
theorem rd_byte {l : List Int} (hb : bytesIn l) (a : Int) : wrap64 (rd l a) = rd l a := by
  have h := bytesIn_at hb a.toNat
  have e : rd l a = l.getD a.toNat 0 := by simp [rd]
  rw [e]
  exact w64 (by omega) (by omega)
theorem getW_rd (l : List Int) (a : Int) (h : 0 ≤ a ∧ a ≤ (l.length : Int) - 2) : getW l a = (rd l a * 256 + rd l (a + 1), a + 2, true) := by
  unfold getW
  rw [if_pos h]
  have e : rd l a = l.getD a.toNat 0 := by simp [rd]
  have e1 : rd l (a + 1) = l.getD (a.toNat + 1) 0 := by
    have : (a + 1).toNat = a.toNat + 1 := by omega
    simp [rd, this]
  rw [e, e1]
theorem getW_out (l : List Int) (a : Int) (h : ¬ (0 ≤ a ∧ a ≤ (l.length : Int) - 2)) : getW l a = (0, 0, false) := by
  unfold getW; rw [if_neg h]

theorem spec_GetKey_ev (l : List Int) (a : Int) (h : l.length ≤ 4194304) (hb : bytesIn l) (ha : -9223372036854775808 ≤ a ∧ a ≤ 9223372036854775807) : Ev (fun k => spec_GetKey.f k l a) (getKey l a) := by
  by_cases c : 0 ≤ a ∧ a ≤ (l.length : Int) - 6
  · obtain ⟨K, hK⟩ := spec_KeyOk_ev (rd l a) (rd l (a + 1)) (rd l (a + 2)) (rd l (a + 3)) (rd l (a + 4) * 256 + rd l (a + 5))
    refine ⟨K, fun k hk => ?_⟩
    have hK := hK k hk
    simp only at hK
    have e4 : spec_GetW.f l (a + 4) = some (rd l (a + 4) * 256 + rd l (a + 5), a + 6, true) := by
      rw [spec_GetW_ev l (a + 4) h hb (by omega), getW_rd l (a + 4) (by omega), show a + 4 + 1 = a + 5 by omega, show a + 4 + 2 = a + 6 by omega]
    simp only [spec_GetKey.f, spec_l1In_f, Option.bind_some]
    rw [w64 (x := (l.length : Int) - 6) (by omega) (by omega), w64 (x := a + 4) (by omega) (by omega), w64 (x := a + 1) (by omega) (by omega), w64 (x := a + 2) (by omega) (by omega), w64 (x := a + 3) (by omega) (by omega), decide_eq_true c, if_pos rfl, e4]
    simp only [Option.bind_some]
    rw [if_pos (by omega), if_pos (by omega), if_pos (by omega), if_pos (by omega), if_pos (by omega), if_pos (by omega), if_pos (by omega), if_pos (by omega), rd_byte hb a, rd_byte hb (a + 1), rd_byte hb (a + 2), rd_byte hb (a + 3), hK]
    simp only [Option.bind_some, getKey]
    by_cases q : keyOk5 (rd l a) (rd l (a + 1)) (rd l (a + 2)) (rd l (a + 3)) (rd l (a + 4) * 256 + rd l (a + 5)) = true
    · rw [if_pos q, if_pos ⟨c, q⟩]
    · rw [if_neg q, if_neg (fun z => q z.2)]
  · refine evOf fun k => ?_
    simp only [spec_GetKey.f, spec_l1In_f, Option.bind_some, getKey]
    rw [w64 (x := (l.length : Int) - 6) (by omega) (by omega), decide_eq_false c, if_neg (by decide), if_neg (fun z => c z.1)]

theorem impl_within_f (a b c : Int) : impl_within.f a b c = some (decide (b ≤ a ∧ a ≤ c)) := by
  unfold impl_within.f
  by_cases h : a ≥ b
  · rw [if_pos h]; congr 1; rw [Bool.eq_iff_iff]; simp; omega
  · rw [if_neg h]; congr 1; rw [Bool.eq_iff_iff]; simp; omega

theorem impl_KeyOk_ev (a b c d e : Int) : Ev (fun k => impl_KeyOk.f k a b c d e) (keyOk5 a b c d e) := by
  refine evSucc ⟨0, 1, fun k _ => ?_⟩
  simp only [impl_KeyOk.f, impl_within_f, Option.bind_some, impl_KeyOk.j0, keyOk5]
  cases h0 : decide (0 ≤ a ∧ a ≤ 15) <;> cases h1 : decide (1 ≤ b ∧ b ≤ 60) <;> cases h2 : decide (0 ≤ c ∧ c ≤ 2) <;> simp only [Bool.false_and, Bool.true_and, Bool.false_eq_true, if_true, if_false, Bool.not_true, Bool.not_false]
  by_cases h3 : c = 1
  · rw [if_pos h3, if_pos h3]
    cases h4 : decide (0 ≤ d ∧ d ≤ 23) <;> simp only [Bool.false_and, Bool.true_and, Bool.false_eq_true, if_true, if_false]
  · rw [if_neg h3, if_neg h3]
    by_cases h4 : d = 0
    · rw [if_pos h4]; simp [h4]; rw [Bool.eq_iff_iff]; simp
    · rw [if_neg h4]; simp [h4]

theorem eqKeyF_same (a b c d e : Int) : laws_eqKey.f a b c d e a b c d e = some true := by
  simp [laws_eqKey.f]

theorem one_bad (l : List Int) (a : Int) : impl_reader_one.f l a true = some (0, a, true) := by
  unfold impl_reader_one.f; rw [if_pos rfl]
theorem one_out (l : List Int) (a : Int) (c : a < 0 ∨ a ≥ (l.length : Int)) : impl_reader_one.f l a false = some (0, a, true) := by
  unfold impl_reader_one.f; rw [if_neg (by decide)]
  by_cases c0 : a < 0
  · rw [if_pos c0]
  · rw [if_neg c0, if_pos (by omega)]
theorem one_ok (l : List Int) (a : Int) (h : l.length ≤ 4194304) (hb : bytesIn l) (c : 0 ≤ a ∧ a < (l.length : Int)) : impl_reader_one.f l a false = some (rd l a, a + 1, false) := by
  unfold impl_reader_one.f
  rw [if_neg (by decide), if_neg (by omega), if_neg (by omega), w64 (x := a + 1) (by omega) (by omega), w64 (x := a + 1 - 1) (by omega) (by omega), show a + 1 - 1 = a by omega, if_pos (by omega), if_pos (by omega), rd_byte hb]
theorem word_bad (l : List Int) (a : Int) (h : l.length ≤ 4194304) (hb : bytesIn l) (ha : -9223372036854775808 ≤ a ∧ a ≤ 9223372036854775807) : impl_reader_word.f l a true = some (0, a, true) := by
  unfold impl_reader_word.f; rw [impl_GetW_ev l a h hb ha]
  simp only [Option.bind_some, if_true]
theorem word_out (l : List Int) (a : Int) (h : l.length ≤ 4194304) (hb : bytesIn l) (ha : -9223372036854775808 ≤ a ∧ a ≤ 9223372036854775807) (c : ¬ (0 ≤ a ∧ a ≤ (l.length : Int) - 2)) : impl_reader_word.f l a false = some (0, a, true) := by
  unfold impl_reader_word.f; rw [impl_GetW_ev l a h hb ha, getW_out l a c]
  simp only [Option.bind_some, Bool.false_eq_true, if_false]
theorem word_ok (l : List Int) (a : Int) (h : l.length ≤ 4194304) (hb : bytesIn l) (c : 0 ≤ a ∧ a ≤ (l.length : Int) - 2) : impl_reader_word.f l a false = some (rd l a * 256 + rd l (a + 1), a + 2, false) := by
  unfold impl_reader_word.f; rw [impl_GetW_ev l a h hb (by omega), getW_rd l a c]
  simp only [Option.bind_some, Bool.false_eq_true, if_false, if_true]
theorem impl_GetKey_ev (l : List Int) (a : Int) (h : l.length ≤ 4194304) (hb : bytesIn l) (ha : -9223372036854775808 ≤ a ∧ a ≤ 9223372036854775807) : Ev (fun k => impl_GetKey.f k l a) (getKey l a) := by
  by_cases c : 0 ≤ a ∧ a ≤ (l.length : Int) - 6
  · obtain ⟨K, hK⟩ := impl_KeyOk_ev (rd l a) (rd l (a + 1)) (rd l (a + 2)) (rd l (a + 3)) (rd l (a + 4) * 256 + rd l (a + 5))
    refine ⟨K, fun k hk => ?_⟩
    have hK := hK k hk
    simp only at hK
    have e4 : impl_reader_word.f l (a + 4) false = some (rd l (a + 4) * 256 + rd l (a + 5), a + 6, false) := by
      rw [word_ok l (a + 4) h hb (by omega), show a + 4 + 1 = a + 5 by omega, show a + 4 + 2 = a + 6 by omega]
    simp only [impl_GetKey.f, impl_reader_key.f, one_ok l a h hb (by omega), Option.bind_some, one_ok l (a + 1) h hb (by omega), show a + 1 + 1 = a + 2 by omega, one_ok l (a + 2) h hb (by omega), show a + 2 + 1 = a + 3 by omega, one_ok l (a + 3) h hb (by omega), show a + 3 + 1 = a + 4 by omega, e4, Bool.false_eq_true, if_false, hK]
    by_cases q : keyOk5 (rd l a) (rd l (a + 1)) (rd l (a + 2)) (rd l (a + 3)) (rd l (a + 4) * 256 + rd l (a + 5)) = true
    · rw [if_pos q]; simp only [Option.bind_some, Bool.false_eq_true, if_false, getKey]; rw [if_pos ⟨c, q⟩]
    · rw [if_neg q]; simp only [Option.bind_some, if_true, getKey]; rw [if_neg (fun z => q z.2)]
  · refine evOf fun k => ?_
    have out : getKey l a = (0, 0, 0, 0, 0, 0, false) := by unfold getKey; rw [if_neg (fun z => c z.1)]
    rw [out]
    have w : ∀ x : Int, -9223372036854775808 ≤ x ∧ x ≤ 9223372036854775807 → impl_reader_word.f l x true = some (0, x, true) := fun x hx => word_bad l x h hb hx
    by_cases c0 : a < 0 ∨ a ≥ (l.length : Int)
    · simp only [impl_GetKey.f, impl_reader_key.f, one_out l a c0, one_bad, w a ha, Option.bind_some, if_true]
    by_cases c1 : a + 1 ≥ (l.length : Int)
    · simp only [impl_GetKey.f, impl_reader_key.f, one_ok l a h hb (by omega), one_out l (a + 1) (.inr c1), one_bad, w (a + 1) (by omega), Option.bind_some, if_true]
    by_cases c2 : a + 1 + 1 ≥ (l.length : Int)
    · simp only [impl_GetKey.f, impl_reader_key.f, one_ok l a h hb (by omega), one_ok l (a + 1) h hb (by omega), one_out l (a + 1 + 1) (.inr c2), one_bad, w (a + 1 + 1) (by omega), Option.bind_some, if_true]
    by_cases c3 : a + 1 + 1 + 1 ≥ (l.length : Int)
    · simp only [impl_GetKey.f, impl_reader_key.f, one_ok l a h hb (by omega), one_ok l (a + 1) h hb (by omega), one_ok l (a + 1 + 1) h hb (by omega), one_out l (a + 1 + 1 + 1) (.inr c3), w (a + 1 + 1 + 1) (by omega), Option.bind_some, if_true]
    · simp only [impl_GetKey.f, impl_reader_key.f, one_ok l a h hb (by omega), one_ok l (a + 1) h hb (by omega), one_ok l (a + 1 + 1) h hb (by omega), one_ok l (a + 1 + 1 + 1) h hb (by omega), word_out l (a + 1 + 1 + 1 + 1) h hb (by omega) (by omega), Option.bind_some, if_true]

theorem FnExactGetKey (l0 : List (Int)) (a1 : Int) (h0 : (l0.length ≤ 9223372036854775807 ∧ ∀ y0 ∈ l0, (Lit.int .u8 y0).wf = true)) (h1 : (Lit.int .i64 a1).wf = true) : ∃ k, laws_FnExactGetKey.f k l0 a1 = some true := by
  apply Ev.rounds
  unfold laws_FnExactGetKey.f
  by_cases c0 : (l0.length : Int) > 1048576
  · simp only [if_pos c0]; exact Ev.now _
  simp only [if_neg c0]
  have i0 : inByteS l0 := in_of_sumByteS (by unfold sumByteS; omega)
  have o0 : okByteS l0 := ok_of_inByteS i0
  have b0 : bytesIn l0 := fun x hx => wf_u8 (h0.2 x hx)
  repeat' (first
    | exact Ev.now _
    | (refine Ev.bind (toByteS_ev _ (by assumption)) ?_)
    | (refine Ev.bind (eqByteS_ev _ (by assumption)) ?_)
    | (refine Ev.bind (impl_GetKey_ev _ _ o0 b0 (wf_i64 h1)) ?_)
    | (refine Ev.bind (spec_GetKey_ev _ _ o0 b0 (wf_i64 h1)) ?_)
    | (simp only [Option.bind_some, ↓reduceIte, bne_self_eq_false, Bool.false_eq_true, Bool.not_true, eq_self, eqKeyF_same, eq_self])
    | (refine Ev.step (fun _ => rfl) ?_; simp only [laws_FnExactGetKey.j0]))

end Go.Proofs.Ytkaoiaolbhklnaa.Pure
