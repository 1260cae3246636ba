/- Whatever the arguments: the law answers true; said of the plain functions that the print made of the Go text, with no condition but that the arguments are of their kinds. -/
import Derived.Test.YtbbendmghdccpaaPFnExactCrcx0
import Derived.Test.YtbbendmghdccpaaPFnExactCrcx1
import Derived.Test.YtbbendmghdccpaaCore
namespace Go.Proofs.Ytbbendmghdccpaa.Pure
open Go.RowKit Go.Proofs.Ytbbendmghdccpaa.PFnExactCrc Go.Proofs.Ytbbendmghdccpaa.Core Go.Proofs.YtbbendmghdccpaaW.PrintWords Go.Proofs.YtbbendmghdccpaaW.PrintLast
set_option linter.unusedSimpArgs false
set_option linter.unusedVariables false

def okByteS (l : List Int) : Prop := l.length ≤ 4194304
def cntByteS (l : List Int) : Int := l.length
theorem cntByteS_nn {l : List Int} (h : okByteS l) : 0 ≤ cntByteS l ∧ cntByteS l ≤ 1073741824 := by unfold okByteS at h; unfold cntByteS; omega
def inByteS (l : List Int) : Prop := l.length ≤ 1048576
theorem ok_of_inByteS {l : List Int} (h : inByteS l) : okByteS l := by unfold inByteS at h; unfold okByteS; omega
def sumByteS (l : List Int) : Int := l.length
theorem sumByteS_nn (l : List Int) : 0 ≤ sumByteS l := by unfold sumByteS; omega
theorem in_of_sumByteS {l : List Int} (h : sumByteS l ≤ 1048576) : inByteS l := by unfold sumByteS at h; unfold inByteS; omega

theorem toByteS_ev (l : List Int) (hi : inByteS l) : Ev (fun k => laws_toByteS.f k l) l := by
  have h : l.length ≤ 1048576 := hi
  have hl : ∀ i, i ≤ l.length → (fill (fun i => l.getD i 0) (List.replicate l.length (0 : Int)) i).length = l.length := fun i hi => by rw [fill_length _ _ _ (by simpa using hi)]; simp
  obtain ⟨K, hk⟩ := evRange0 (σ := List Int) l.length (fun k s i => laws_toByteS.l0 k l s i) (fun i s => s = fill (fun i => l.getD i 0) (List.replicate l.length (0 : Int)) i) (fun _ _ => l) (List.replicate l.length (0 : Int)) (fill_zero _ _).symm
    (by
      intro i s hi hs
      subst hs
      refine .inl ⟨_, rfl, rfl, 0, 1, fun k _ => ?_⟩
      have h1 := hl i (by omega)
      simp only [laws_toByteS.l0]
      rw [if_pos (by omega), if_pos (by omega), if_pos (by omega), w64s i (by omega), Int.toNat_natCast, fill_set _ _ _ (by simpa using hi) (rd_nat l i)])
    (by
      intro s hs
      subst hs
      refine ⟨0, 1, fun k _ => ?_⟩
      simp only [laws_toByteS.l0]
      rw [if_neg (by omega)]
      have := fill_all (fun i => l.getD i 0) (List.replicate l.length (0 : Int))
      rw [List.length_replicate] at this
      rw [this, range_id])
  refine ⟨K, fun k hk' => ?_⟩
  simp only [laws_toByteS.f]
  rw [if_pos (by omega), if_pos (by omega)]
  have e := hk k hk'
  simpa using e

theorem eqByteS_ev (l : List Int) (ho : okByteS l) : Ev (fun k => laws_eqByteS.f k l l) true := by
  have h : l.length ≤ 4194304 := ho
  obtain ⟨K, hk⟩ := evRange0 (σ := Unit) l.length (fun k _ i => laws_eqByteS.l0 k l l i) (fun _ _ => True) (fun _ _ => true) () trivial
    (by
      intro i _ hi _
      refine .inl ⟨(), trivial, rfl, 0, 1, fun k _ => ?_⟩
      simp only [laws_eqByteS.l0]
      rw [if_pos (by omega), if_pos (by omega), if_pos (by omega), if_pos trivial, w64s i (by omega)])
    (by
      intro _ _
      refine ⟨0, 1, fun k _ => ?_⟩
      simp only [laws_eqByteS.l0]
      rw [if_neg (by omega)])
  refine ⟨K, fun k hk' => ?_⟩
  simp only [laws_eqByteS.f]
  rw [if_pos trivial]
  exact hk k hk'

def crcBit (x : Nat) : Nat := if x % 2 = 1 then (x / 2) ^^^ 2197175160 else x / 2
def crc8 (x : Nat) : Nat := crcBit (crcBit (crcBit (crcBit (crcBit (crcBit (crcBit (crcBit x)))))))
def crcFold (l : List Int) (x : Nat) : Nat := l.foldl (fun x b => crc8 (x ^^^ b.toNat)) x
def crcN (l : List Int) : Int := ((crcFold l 4294967295 ^^^ 4294967295 : Nat) : Int)
theorem crcBit_lt {x : Nat} (h : x < 2 ^ 32) : crcBit x < 2 ^ 32 := by
  unfold crcBit
  split
  · exact Nat.xor_lt_two_pow (by omega) (by decide)
  · omega
theorem crc8_lt {x : Nat} (h : x < 2 ^ 32) : crc8 x < 2 ^ 32 := crcBit_lt (crcBit_lt (crcBit_lt (crcBit_lt (crcBit_lt (crcBit_lt (crcBit_lt (crcBit_lt h)))))))
theorem crcFold_lt (l : List Int) : ∀ {x : Nat}, x < 2 ^ 32 → (∀ b ∈ l, 0 ≤ b ∧ b ≤ 255) → crcFold l x < 2 ^ 32 := by
  induction l with
  | nil => intro x h _; exact h
  | cons b l ih =>
    intro x h hb
    have h1 := hb b (by simp)
    exact ih (crc8_lt (Nat.xor_lt_two_pow h (by omega))) (fun c hc => hb c (by simp [hc]))

def bytesIn (l : List Int) : Prop := ∀ x ∈ l, 0 ≤ x ∧ x ≤ 255
theorem bytesIn_at {l : List Int} (h : bytesIn l) (i : Nat) : 0 ≤ l.getD i 0 ∧ l.getD i 0 ≤ 255 := by
  by_cases hi : i < l.length
  · exact h _ (getD_mem l i 0 hi)
  · rw [List.getD_eq_getElem?_getD, List.getElem?_eq_none (by omega)]; decide
def getW (l : List Int) (a : Int) : Int × Int × Bool := if 0 ≤ a ∧ a ≤ (l.length : Int) - 2 then (l.getD a.toNat 0 * 256 + l.getD (a.toNat + 1) 0, a + 2, true) else (0, 0, false)

theorem spec_Crc_bit (l : List Int) (x : Nat) (i : Int) (j : Nat) (k : Nat) (h : x < 2 ^ 32) (hj : j < 8) : spec_Crc.l1 (k + 1) l (x : Int) i (j : Int) = spec_Crc.l1 k l ((crcBit x : Nat) : Int) i ((j + 1 : Nat) : Int) := by
  simp only [spec_Crc.l1]
  rw [if_pos (by omega), and1 (x : Int), w64s j (by omega)]
  have e : ((x : Int) / 2) = ((x / 2 : Nat) : Int) := by omega
  by_cases c : x % 2 = 1
  · rw [if_pos (by omega), e, show (2197175160 : Int) = ((2197175160 : Nat) : Int) from rfl, xorN _ _ (by omega) (by decide)]
    simp only [crcBit, if_pos c]
  · rw [if_neg (by omega), e]
    simp only [crcBit, if_neg c]
theorem spec_Crc_ev (l : List Int) (h : l.length ≤ 4194304) (hb : bytesIn l) : Ev (fun k => spec_Crc.f k l) (crcN l) := by
  obtain ⟨K, hk⟩ := evRange0 (σ := Int) l.length (fun k s i => spec_Crc.l0 k l s i) (fun i s => ∃ x : Nat, s = (x : Int) ∧ x < 2 ^ 32 ∧ crcFold (l.drop i) x = crcFold l 4294967295) (fun _ _ => crcN l) 4294967295 ⟨4294967295, rfl, by decide, rfl⟩
    (by
      rintro i s hi ⟨x, rfl, hx, hf⟩
      have hd := drop_getD l i 0 hi
      have hr : rd l (i : Int) = l.getD i 0 := rd_nat l i
      have hy := bytesIn_at hb i
      rw [hd] at hf
      generalize l.getD i 0 = y at *
      obtain ⟨b, rfl⟩ := Int.eq_ofNat_of_zero_le hy.1
      have hx2 : x ^^^ b < 2 ^ 32 := Nat.xor_lt_two_pow hx (by omega)
      refine .inl ⟨((crc8 (x ^^^ b) : Nat) : Int), ⟨_, rfl, crc8_lt hx2, hf⟩, rfl, 0, 10, fun k _ => ?_⟩
      rw [show k + 10 = (k + 9) + 1 from rfl]
      simp only [spec_Crc.l0, hr]
      rw [if_pos (by omega), if_pos (by omega), w64 (x := (b : Int)) (by omega) (by omega), xorN _ _ hx (by omega)]
      have h1 := crcBit_lt hx2
      have h2 := crcBit_lt h1
      have h3 := crcBit_lt h2
      have h4 := crcBit_lt h3
      have h5 := crcBit_lt h4
      have h6 := crcBit_lt h5
      have h7 := crcBit_lt h6
      have z := spec_Crc_bit l (x ^^^ b) i 0 (k + 8) hx2 (by decide)
      rw [show ((0 : Nat) : Int) = 0 from rfl] at z
      rw [z, spec_Crc_bit l _ i _ _ h1 (by decide), spec_Crc_bit l _ i _ _ h2 (by decide), spec_Crc_bit l _ i _ _ h3 (by decide), spec_Crc_bit l _ i _ _ h4 (by decide), spec_Crc_bit l _ i _ _ h5 (by decide), spec_Crc_bit l _ i _ _ h6 (by decide), spec_Crc_bit l _ i _ _ h7 (by decide)]
      simp only [spec_Crc.l1]
      rw [if_neg (by omega), w64s i (by omega)]
      rfl)
    (by
      rintro s ⟨x, rfl, hx, hf⟩
      refine ⟨0, 1, fun k _ => ?_⟩
      simp only [spec_Crc.l0]
      rw [if_neg (by omega), show (4294967295 : Int) = ((4294967295 : Nat) : Int) from rfl, xorN _ _ hx (by decide)]
      rw [List.drop_length] at hf
      simp only [crcN, ← hf]
      rfl)
  exact ⟨K, fun k hk' => hk k hk'⟩

theorem impl_Crc_bit (l : List Int) (x : Nat) (n i : Int) (j : Nat) (k : Nat) (h : x < 2 ^ 32) (hj : j < 8) : impl_Crc.l1 (k + 1) (x : Int) l n i (j : Int) = impl_Crc.l1 k ((crcBit x : Nat) : Int) l n i ((j + 1 : Nat) : Int) := by
  simp only [impl_Crc.l1]
  have e0 : Int.tmod (x : Int) 2 = ((x % 2 : Nat) : Int) := by rw [Int.tmod_eq_emod_of_nonneg (by omega)]; omega
  have e : wrap64 (Int.tdiv (x : Int) 2) = ((x / 2 : Nat) : Int) := by rw [Int.tdiv_eq_ediv_of_nonneg (by omega), w64 (by omega) (by omega)]; omega
  rw [if_pos (by omega), e0, e, w64s j (by omega)]
  by_cases c : x % 2 = 1
  · rw [if_pos (by omega), show (2197175160 : Int) = ((2197175160 : Nat) : Int) from rfl, xorN _ _ (by omega) (by decide)]
    simp only [crcBit, if_pos c]
  · rw [if_neg (by omega)]
    simp only [crcBit, if_neg c]
theorem impl_Crc_ev (l : List Int) (h : l.length ≤ 4194304) (hb : bytesIn l) : Ev (fun k => impl_Crc.f k l) (crcN l) := by
  obtain ⟨K, hk⟩ := evRange0 (σ := Int) l.length (fun k s i => impl_Crc.l0 k s l (l.length : Int) i) (fun i s => ∃ x : Nat, s = (x : Int) ∧ x < 2 ^ 32 ∧ crcFold (l.drop i) x = crcFold l 4294967295) (fun _ _ => crcN l) 4294967295 ⟨4294967295, rfl, by decide, rfl⟩
    (by
      rintro i s hi ⟨x, rfl, hx, hf⟩
      have hd := drop_getD l i 0 hi
      have hr : rd l (i : Int) = l.getD i 0 := rd_nat l i
      have hy := bytesIn_at hb i
      rw [hd] at hf
      generalize l.getD i 0 = y at *
      obtain ⟨b, rfl⟩ := Int.eq_ofNat_of_zero_le hy.1
      have hx2 : x ^^^ b < 2 ^ 32 := Nat.xor_lt_two_pow hx (by omega)
      refine .inl ⟨((crc8 (x ^^^ b) : Nat) : Int), ⟨_, rfl, crc8_lt hx2, hf⟩, rfl, 0, 10, fun k _ => ?_⟩
      rw [show k + 10 = (k + 9) + 1 from rfl]
      simp only [impl_Crc.l0, hr]
      rw [if_pos (by omega), if_pos (by omega), if_pos (by omega), w64 (x := (b : Int)) (by omega) (by omega), xorN _ _ hx (by omega)]
      have h1 := crcBit_lt hx2
      have h2 := crcBit_lt h1
      have h3 := crcBit_lt h2
      have h4 := crcBit_lt h3
      have h5 := crcBit_lt h4
      have h6 := crcBit_lt h5
      have h7 := crcBit_lt h6
      have z := impl_Crc_bit l (x ^^^ b) (l.length : Int) i 0 (k + 8) hx2 (by decide)
      rw [show ((0 : Nat) : Int) = 0 from rfl] at z
      rw [z, impl_Crc_bit l _ _ i _ _ h1 (by decide), impl_Crc_bit l _ _ i _ _ h2 (by decide), impl_Crc_bit l _ _ i _ _ h3 (by decide), impl_Crc_bit l _ _ i _ _ h4 (by decide), impl_Crc_bit l _ _ i _ _ h5 (by decide), impl_Crc_bit l _ _ i _ _ h6 (by decide), impl_Crc_bit l _ _ i _ _ h7 (by decide)]
      simp only [impl_Crc.l1]
      rw [if_neg (by omega), w64s i (by omega)]
      rfl)
    (by
      rintro s ⟨x, rfl, hx, hf⟩
      refine ⟨0, 1, fun k _ => ?_⟩
      simp only [impl_Crc.l0]
      rw [if_neg (by omega), show (4294967295 : Int) = ((4294967295 : Nat) : Int) from rfl, xorN _ _ hx (by decide)]
      rw [List.drop_length] at hf
      simp only [crcN, ← hf]
      rfl)
  exact ⟨K, fun k hk' => hk k hk'⟩

theorem FnExactCrc (l0 : List Int) (h0 : (l0.length ≤ 9223372036854775807 ∧ ∀ x ∈ l0, (Lit.int .u8 x).wf = true)) : ∃ k, laws_FnExactCrc.f k l0 = some true := by
  apply Ev.rounds
  unfold laws_FnExactCrc.f
  by_cases c0 : (l0.length : Int) > 1048576
  · simp only [if_pos c0]; exact Ev.now _
  simp only [if_neg c0]
  have i0 : inByteS l0 := in_of_sumByteS (by unfold sumByteS; omega)
  have o0 : okByteS l0 := ok_of_inByteS i0
  have q0 := cntByteS_nn o0
  have b0 : bytesIn l0 := fun x hx => wf_u8 (h0.2 x hx)
  repeat' (first
    | exact Ev.now _
    | (refine Ev.bind (toByteS_ev _ (by assumption)) ?_)
    | (refine Ev.bind (eqByteS_ev _ (by assumption)) ?_)
    | (refine Ev.bind (markByteS_ev _ _ (by assumption) (by omega) (by omega)) ?_)
    | (refine Ev.bind (heldByteS_ev _ _ (by assumption) (by omega) (by omega)) ?_)
    | (refine Ev.bind (impl_Crc_ev _ o0 b0) ?_)
    | (refine Ev.bind (spec_Crc_ev _ o0 b0) ?_)
    | (simp only [Option.bind_some, ↓reduceIte, bne_self_eq_false, Bool.false_eq_true, Bool.not_true, eq_self, ]))

end Go.Proofs.Ytbbendmghdccpaa.Pure
