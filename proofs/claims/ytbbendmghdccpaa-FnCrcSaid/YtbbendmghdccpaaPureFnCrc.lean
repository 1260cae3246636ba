/- Whatever the arguments: the law answers true; said of the plain functions that the print made of the Go text, with no condition but that the arguments are of their kinds. -/
import Derived.Test.YtbbendmghdccpaaMFnCrcx0
import Derived.Test.YtbbendmghdccpaaMFnCrcx1
import Derived.Test.YtbbendmghdccpaaMFnCrcx2
import Derived.Test.YtbbendmghdccpaaCore
namespace Go.Proofs.Ytbbendmghdccpaa.Pure
open Go.RowKit Go.Proofs.Ytbbendmghdccpaa.PFnCrc Go.Proofs.Ytbbendmghdccpaa.Core Go.Proofs.YtbbendmghdccpaaW.PrintWords Go.Proofs.YtbbendmghdccpaaW.PrintLast
set_option linter.unusedSimpArgs false
set_option linter.unusedVariables false

def crcBit (x : Nat) : Nat := if x % 2 = 1 then (x / 2) ^^^ 2197175160 else x / 2
def crc8 (x : Nat) : Nat := crcBit (crcBit (crcBit (crcBit (crcBit (crcBit (crcBit (crcBit x)))))))
def crcFold (l : List Int) (x : Nat) : Nat := l.foldl (fun x b => crc8 (x ^^^ b.toNat)) x
def crcN (l : List Int) : Int := ((crcFold l 4294967295 ^^^ 4294967295 : Nat) : Int)
theorem crcBit_lt {x : Nat} (h : x < 2 ^ 32) : crcBit x < 2 ^ 32 := by
  unfold crcBit
  split
  · exact Nat.xor_lt_two_pow (by omega) (by decide)
  · omega
theorem crc8_lt {x : Nat} (h : x < 2 ^ 32) : crc8 x < 2 ^ 32 := crcBit_lt (crcBit_lt (crcBit_lt (crcBit_lt (crcBit_lt (crcBit_lt (crcBit_lt (crcBit_lt h)))))))
theorem crcFold_lt (l : List Int) : ∀ {x : Nat}, x < 2 ^ 32 → (∀ b ∈ l, 0 ≤ b ∧ b ≤ 255) → crcFold l x < 2 ^ 32 := by
  induction l with
  | nil => intro x h _; exact h
  | cons b l ih =>
    intro x h hb
    have h1 := hb b (by simp)
    exact ih (crc8_lt (Nat.xor_lt_two_pow h (by omega))) (fun c hc => hb c (by simp [hc]))

def bytesIn (l : List Int) : Prop := ∀ x ∈ l, 0 ≤ x ∧ x ≤ 255
theorem bytesIn_at {l : List Int} (h : bytesIn l) (i : Nat) : 0 ≤ l.getD i 0 ∧ l.getD i 0 ≤ 255 := by
  by_cases hi : i < l.length
  · exact h _ (getD_mem l i 0 hi)
  · rw [List.getD_eq_getElem?_getD, List.getElem?_eq_none (by omega)]; decide
def getW (l : List Int) (a : Int) : Int × Int × Bool := if 0 ≤ a ∧ a ≤ (l.length : Int) - 2 then (l.getD a.toNat 0 * 256 + l.getD (a.toNat + 1) 0, a + 2, true) else (0, 0, false)

theorem spec_Crc_bit (l : List Int) (x : Nat) (i : Int) (j : Nat) (k : Nat) (h : x < 2 ^ 32) (hj : j < 8) : spec_Crc.l1 (k + 1) l (x : Int) i (j : Int) = spec_Crc.l1 k l ((crcBit x : Nat) : Int) i ((j + 1 : Nat) : Int) := by
  simp only [spec_Crc.l1]
  rw [if_pos (by omega), and1 (x : Int), w64s j (by omega)]
  have e : ((x : Int) / 2) = ((x / 2 : Nat) : Int) := by omega
  by_cases c : x % 2 = 1
  · rw [if_pos (by omega), e, show (2197175160 : Int) = ((2197175160 : Nat) : Int) from rfl, xorN _ _ (by omega) (by decide)]
    simp only [crcBit, if_pos c]
  · rw [if_neg (by omega), e]
    simp only [crcBit, if_neg c]
theorem spec_Crc_ev (l : List Int) (h : l.length ≤ 4194304) (hb : bytesIn l) : Ev (fun k => spec_Crc.f k l) (crcN l) := by
  obtain ⟨K, hk⟩ := evRange0 (σ := Int) l.length (fun k s i => spec_Crc.l0 k l s i) (fun i s => ∃ x : Nat, s = (x : Int) ∧ x < 2 ^ 32 ∧ crcFold (l.drop i) x = crcFold l 4294967295) (fun _ _ => crcN l) 4294967295 ⟨4294967295, rfl, by decide, rfl⟩
    (by
      rintro i s hi ⟨x, rfl, hx, hf⟩
      have hd := drop_getD l i 0 hi
      have hr : rd l (i : Int) = l.getD i 0 := rd_nat l i
      have hy := bytesIn_at hb i
      rw [hd] at hf
      generalize l.getD i 0 = y at *
      obtain ⟨b, rfl⟩ := Int.eq_ofNat_of_zero_le hy.1
      have hx2 : x ^^^ b < 2 ^ 32 := Nat.xor_lt_two_pow hx (by omega)
      refine .inl ⟨((crc8 (x ^^^ b) : Nat) : Int), ⟨_, rfl, crc8_lt hx2, hf⟩, rfl, 0, 10, fun k _ => ?_⟩
      rw [show k + 10 = (k + 9) + 1 from rfl]
      simp only [spec_Crc.l0, hr]
      rw [if_pos (by omega), if_pos (by omega), w64 (x := (b : Int)) (by omega) (by omega), xorN _ _ hx (by omega)]
      have h1 := crcBit_lt hx2
      have h2 := crcBit_lt h1
      have h3 := crcBit_lt h2
      have h4 := crcBit_lt h3
      have h5 := crcBit_lt h4
      have h6 := crcBit_lt h5
      have h7 := crcBit_lt h6
      have z := spec_Crc_bit l (x ^^^ b) i 0 (k + 8) hx2 (by decide)
      rw [show ((0 : Nat) : Int) = 0 from rfl] at z
      rw [z, spec_Crc_bit l _ i _ _ h1 (by decide), spec_Crc_bit l _ i _ _ h2 (by decide), spec_Crc_bit l _ i _ _ h3 (by decide), spec_Crc_bit l _ i _ _ h4 (by decide), spec_Crc_bit l _ i _ _ h5 (by decide), spec_Crc_bit l _ i _ _ h6 (by decide), spec_Crc_bit l _ i _ _ h7 (by decide)]
      simp only [spec_Crc.l1]
      rw [if_neg (by omega), w64s i (by omega)]
      rfl)
    (by
      rintro s ⟨x, rfl, hx, hf⟩
      refine ⟨0, 1, fun k _ => ?_⟩
      simp only [spec_Crc.l0]
      rw [if_neg (by omega), show (4294967295 : Int) = ((4294967295 : Nat) : Int) from rfl, xorN _ _ hx (by decide)]
      rw [List.drop_length] at hf
      simp only [crcN, ← hf]
      rfl)
  exact ⟨K, fun k hk' => hk k hk'⟩

theorem impl_Crc_bit (l : List Int) (x : Nat) (n i : Int) (j : Nat) (k : Nat) (h : x < 2 ^ 32) (hj : j < 8) : impl_Crc.l1 (k + 1) (x : Int) l n i (j : Int) = impl_Crc.l1 k ((crcBit x : Nat) : Int) l n i ((j + 1 : Nat) : Int) := by
  simp only [impl_Crc.l1]
  have e0 : Int.tmod (x : Int) 2 = ((x % 2 : Nat) : Int) := by rw [Int.tmod_eq_emod_of_nonneg (by omega)]; omega
  have e : wrap64 (Int.tdiv (x : Int) 2) = ((x / 2 : Nat) : Int) := by rw [Int.tdiv_eq_ediv_of_nonneg (by omega), w64 (by omega) (by omega)]; omega
  rw [if_pos (by omega), e0, e, w64s j (by omega)]
  by_cases c : x % 2 = 1
  · rw [if_pos (by omega), show (2197175160 : Int) = ((2197175160 : Nat) : Int) from rfl, xorN _ _ (by omega) (by decide)]
    simp only [crcBit, if_pos c]
  · rw [if_neg (by omega)]
    simp only [crcBit, if_neg c]
theorem impl_Crc_ev (l : List Int) (h : l.length ≤ 4194304) (hb : bytesIn l) : Ev (fun k => impl_Crc.f k l) (crcN l) := by
  obtain ⟨K, hk⟩ := evRange0 (σ := Int) l.length (fun k s i => impl_Crc.l0 k s l (l.length : Int) i) (fun i s => ∃ x : Nat, s = (x : Int) ∧ x < 2 ^ 32 ∧ crcFold (l.drop i) x = crcFold l 4294967295) (fun _ _ => crcN l) 4294967295 ⟨4294967295, rfl, by decide, rfl⟩
    (by
      rintro i s hi ⟨x, rfl, hx, hf⟩
      have hd := drop_getD l i 0 hi
      have hr : rd l (i : Int) = l.getD i 0 := rd_nat l i
      have hy := bytesIn_at hb i
      rw [hd] at hf
      generalize l.getD i 0 = y at *
      obtain ⟨b, rfl⟩ := Int.eq_ofNat_of_zero_le hy.1
      have hx2 : x ^^^ b < 2 ^ 32 := Nat.xor_lt_two_pow hx (by omega)
      refine .inl ⟨((crc8 (x ^^^ b) : Nat) : Int), ⟨_, rfl, crc8_lt hx2, hf⟩, rfl, 0, 10, fun k _ => ?_⟩
      rw [show k + 10 = (k + 9) + 1 from rfl]
      simp only [impl_Crc.l0, hr]
      rw [if_pos (by omega), if_pos (by omega), if_pos (by omega), w64 (x := (b : Int)) (by omega) (by omega), xorN _ _ hx (by omega)]
      have h1 := crcBit_lt hx2
      have h2 := crcBit_lt h1
      have h3 := crcBit_lt h2
      have h4 := crcBit_lt h3
      have h5 := crcBit_lt h4
      have h6 := crcBit_lt h5
      have h7 := crcBit_lt h6
      have z := impl_Crc_bit l (x ^^^ b) (l.length : Int) i 0 (k + 8) hx2 (by decide)
      rw [show ((0 : Nat) : Int) = 0 from rfl] at z
      rw [z, impl_Crc_bit l _ _ i _ _ h1 (by decide), impl_Crc_bit l _ _ i _ _ h2 (by decide), impl_Crc_bit l _ _ i _ _ h3 (by decide), impl_Crc_bit l _ _ i _ _ h4 (by decide), impl_Crc_bit l _ _ i _ _ h5 (by decide), impl_Crc_bit l _ _ i _ _ h6 (by decide), impl_Crc_bit l _ _ i _ _ h7 (by decide)]
      simp only [impl_Crc.l1]
      rw [if_neg (by omega), w64s i (by omega)]
      rfl)
    (by
      rintro s ⟨x, rfl, hx, hf⟩
      refine ⟨0, 1, fun k _ => ?_⟩
      simp only [impl_Crc.l0]
      rw [if_neg (by omega), show (4294967295 : Int) = ((4294967295 : Nat) : Int) from rfl, xorN _ _ hx (by decide)]
      rw [List.drop_length] at hf
      simp only [crcN, ← hf]
      rfl)
  exact ⟨K, fun k hk' => hk k hk'⟩

/-! The cursor of a draw: bytes, how far, a number that follows from them. -/
def curOk (b : List Int) (i : Int) : Prop := bytesIn b ∧ b.length ≤ 1048576 ∧ 0 ≤ i ∧ i ≤ (b.length : Int)

theorem l1New_ex (b : List Int) (hb : bytesIn b) (hl : b.length ≤ 1048576) : ∃ h, Ev (fun k => spec_l1New.f k b) (b, 0, h) := by
  obtain ⟨r, ⟨h, rfl⟩, K, hk⟩ := evRangeEx (σ := Int) b.length (fun k s i => spec_l1New.l0 k b s i) (fun _ _ => True) (fun r => ∃ h, r = (b, 0, h))
    (by
      intro i s hi _
      by_cases c : i < 4000
      · refine .inl ⟨Go.bits .and .i64 (wrap64 ((wrap64 ((wrap64 (s * 137)) + (wrap64 (rd b (i : Int))))) + 11)) 1073741823, trivial, 0, 1, fun k _ => ?_⟩
        simp only [spec_l1New.l0]
        rw [if_pos (by omega), if_pos (by omega), if_pos (by omega), w64s i (by omega)]
      · refine .inr ⟨(b, 0, s), ⟨s, rfl⟩, 0, 1, fun k _ => ?_⟩
        simp only [spec_l1New.l0]
        rw [if_pos (by omega), if_neg (by omega)])
    (by
      intro s _
      refine ⟨(b, 0, s), ⟨s, rfl⟩, 0, 1, fun k _ => ?_⟩
      simp only [spec_l1New.l0]
      rw [if_neg (by omega)]) 0 (wrap64 (941941 + (b.length : Int))) (Nat.zero_le _) trivial
  exact ⟨h, K, fun k hk' => hk k hk'⟩

theorem l1Byte_ex (b : List Int) (i h : Int) (hc : curOk b i) : ∃ x j g, spec_l1Byte.f b i h = some (x, j, g) ∧ (0 ≤ x ∧ x ≤ 255) ∧ curOk b j := by
  obtain ⟨hb, hl, h0, h1⟩ := hc
  unfold spec_l1Byte.f
  simp only [and255]
  by_cases c : i < (b.length : Int)
  · rw [if_pos c, if_pos h0]
    exact ⟨_, _, _, rfl, ⟨by omega, by omega⟩, hb, hl, by rw [w64 (by omega) (by omega)]; omega, by rw [w64 (by omega) (by omega)]; omega⟩
  · rw [if_neg c]
    exact ⟨_, _, _, rfl, ⟨by omega, by omega⟩, hb, hl, h0, h1⟩

theorem l1Bytes_ex (b : List Int) (i h n : Int) (hc : curOk b i) (h0 : 0 ≤ n) (hn : n ≤ 1048576) : ∃ r : List Int × Int × Int, (r.1.length = n.toNat ∧ bytesIn r.1 ∧ curOk b r.2.1) ∧ Ev (fun k => spec_l1Bytes.f k b i h n) r := by
  obtain ⟨m, rfl⟩ := Int.eq_ofNat_of_zero_le h0
  obtain ⟨r, hp, K, hk⟩ := evRangeEx (σ := List Int × Int × Int) m (fun k s i => spec_l1Bytes.l0 k (m : Int) s.1 i b s.2.1 s.2.2) (fun i s => s.1.length = i ∧ bytesIn s.1 ∧ curOk b s.2.1) (fun r => r.1.length = m ∧ bytesIn r.1 ∧ curOk b r.2.1)
    (by
      rintro i ⟨l, p, q⟩ hi ⟨h1, h2, h3⟩
      simp only at h1 h2 h3
      obtain ⟨x, j, g, e, hx, hj⟩ := l1Byte_ex b p q h3
      refine .inl ⟨(l ++ [x % 256], j, g), ⟨by simp; omega, ?_, hj⟩, 0, 1, fun k _ => ?_⟩
      · intro y hy
        rcases List.mem_append.1 hy with hy | hy
        · exact h2 y hy
        · rw [List.mem_singleton.1 hy]; omega
      · simp only [spec_l1Bytes.l0, e, Option.bind_some]
        rw [if_pos (by omega), if_pos (by omega), w64s i (by omega)])
    (by
      rintro ⟨l, p, q⟩ ⟨h1, h2, h3⟩
      refine ⟨(l, p, q), ⟨h1, h2, h3⟩, 0, 1, fun k _ => ?_⟩
      simp only [spec_l1Bytes.l0]
      rw [if_neg (by omega)]) 0 ([], i, h) (Nat.zero_le _) ⟨rfl, (by intro x hx; cases hx), hc⟩
  exact ⟨r, by simpa using hp, K, fun k hk' => hk k hk'⟩

theorem l1Below_ex (b : List Int) (i h n : Int) (hc : curOk b i) (hn : n ≤ 9223372036854775807) : ∃ x j g, spec_l1Below.f b i h n = some (x, j, g) ∧ (0 ≤ x ∧ (0 < n → x < n) ∧ (n ≤ 0 → x = 0)) ∧ curOk b j := by
  unfold spec_l1Below.f
  by_cases c : n ≤ 0
  · rw [if_pos c]; exact ⟨_, _, _, rfl, ⟨by omega, by omega, fun _ => rfl⟩, hc⟩
  rw [if_neg c]
  by_cases c2 : n ≤ 256
  · rw [if_pos c2]
    obtain ⟨x, j, g, e, hx, hj⟩ := l1Byte_ex b i h hc
    simp only [e, Option.bind_some]
    rw [if_neg (by omega)]
    have h1 := Int.tmod_nonneg (b := n) hx.1
    have h2 := Int.tmod_lt_of_pos x (show 0 < n by omega)
    exact ⟨_, _, _, rfl, ⟨h1, fun _ => h2, fun h => by omega⟩, hj⟩
  · rw [if_neg c2]
    obtain ⟨x, j, g, e, hx, hj⟩ := l1Byte_ex b i h hc
    obtain ⟨x2, j2, g2, e2, hx2, hj2⟩ := l1Byte_ex b j g hj
    obtain ⟨x3, j3, g3, e3, hx3, hj3⟩ := l1Byte_ex b j2 g2 hj2
    simp only [e, e2, e3, Option.bind_some]
    rw [if_neg (by omega), w64 (x := x * 65536) (by omega) (by omega), w64 (x := x2 * 256) (by omega) (by omega), w64 (x := x * 65536 + x2 * 256) (by omega) (by omega), w64 (x := x * 65536 + x2 * 256 + x3) (by omega) (by omega)]
    have h1 := Int.tmod_nonneg (b := n) (show 0 ≤ x * 65536 + x2 * 256 + x3 by omega)
    have h2 := Int.tmod_lt_of_pos (x * 65536 + x2 * 256 + x3) (show 0 < n by omega)
    exact ⟨_, _, _, rfl, ⟨h1, fun _ => h2, fun h => by omega⟩, hj3⟩

theorem DrawCrc_ex (b : List Int) (hb : bytesIn b) (hl : b.length ≤ 1048576) : ∃ r, (r.length ≤ 20 ∧ bytesIn r) ∧ Ev (fun k => spec_DrawCrc.f k b) r := by
  obtain ⟨h, K, e⟩ := l1New_ex b hb hl
  obtain ⟨x, j, g, e2, hx, hj⟩ := l1Below_ex b 0 h 20 ⟨hb, hl, Int.le_refl _, by omega⟩ (by decide)
  obtain ⟨r, ⟨h1, h2, h3⟩, K2, e3⟩ := l1Bytes_ex b j g x hj hx.1 (by have := hx.2.1 (by decide); omega)
  refine ⟨r.1, ⟨by have := hx.2.1 (by decide); omega, h2⟩, K + K2, fun k hk => ?_⟩
  have a1 := e k (by omega)
  have a2 := e3 k (by omega)
  simp only at a1 a2
  simp only [spec_DrawCrc.f, a1, e2, a2, Option.bind_some]

theorem at_ex (l : List Int) (a : Int) (hb : bytesIn l) (hl : l.length ≤ 1048576) (h0 : 0 ≤ a) (h1 : a ≤ 1000) : ∃ x, laws_at.f l a = some x ∧ 0 ≤ x ∧ x ≤ 255 := by
  unfold laws_at.f
  by_cases c : a < (l.length : Int)
  · rw [if_pos c, if_pos h0]
    have h := bytesIn_at hb a.toNat
    have e : rd l a = l.getD a.toNat 0 := rfl
    rw [e, w64 (by omega) (by omega)]
    exact ⟨_, rfl, h.1, h.2⟩
  · rw [if_neg c]
    rw [w64 (x := a * 31) (by omega) (by omega), w64 (x := (l.length : Int) * 7) (by omega) (by omega), w64 (by omega) (by omega)]
    have h2 := Int.tmod_nonneg (b := 256) (show 0 ≤ a * 31 + (l.length : Int) * 7 by omega)
    have h3 := Int.tmod_lt_of_pos (a * 31 + (l.length : Int) * 7) (show (0 : Int) < 256 by decide)
    exact ⟨_, rfl, h2, by omega⟩

theorem crcBit_inj {x y : Nat} (hx : x < 2 ^ 32) (hy : y < 2 ^ 32) (h : crcBit x = crcBit y) : x = y := by
  have bit : ∀ a : Nat, a < 2 ^ 32 → ((a / 2) ^^^ 2197175160).testBit 31 = true := by
    intro a ha
    rw [Nat.testBit_xor, Nat.testBit_lt_two_pow (show a / 2 < 2 ^ 31 by omega)]
    decide
  have low : ∀ a : Nat, a < 2 ^ 32 → (a / 2).testBit 31 = false := fun a ha => Nat.testBit_lt_two_pow (by omega)
  unfold crcBit at h
  by_cases c : x % 2 = 1
  · by_cases d : y % 2 = 1
    · rw [if_pos c, if_pos d] at h
      have h2 : x / 2 = y / 2 := by
        have := congrArg (· ^^^ 2197175160) h
        simpa [Nat.xor_assoc] using this
      omega
    · rw [if_pos c, if_neg d] at h
      have h1 := bit x hx
      rw [h, low y hy] at h1
      cases h1
  · by_cases d : y % 2 = 1
    · rw [if_neg c, if_pos d] at h
      have h1 := bit y hy
      rw [← h, low x hx] at h1
      cases h1
    · rw [if_neg c, if_neg d] at h
      omega
theorem crc8_inj {x y : Nat} (hx : x < 2 ^ 32) (hy : y < 2 ^ 32) (h : crc8 x = crc8 y) : x = y := by
  have a1 := crcBit_lt hx; have a2 := crcBit_lt a1; have a3 := crcBit_lt a2; have a4 := crcBit_lt a3; have a5 := crcBit_lt a4; have a6 := crcBit_lt a5; have a7 := crcBit_lt a6
  have b1 := crcBit_lt hy; have b2 := crcBit_lt b1; have b3 := crcBit_lt b2; have b4 := crcBit_lt b3; have b5 := crcBit_lt b4; have b6 := crcBit_lt b5; have b7 := crcBit_lt b6
  exact crcBit_inj hx hy (crcBit_inj a1 b1 (crcBit_inj a2 b2 (crcBit_inj a3 b3 (crcBit_inj a4 b4 (crcBit_inj a5 b5 (crcBit_inj a6 b6 (crcBit_inj a7 b7 h)))))))
theorem xor_inj {x y b : Nat} (h : x ^^^ b = y ^^^ b) : x = y := by
  have := congrArg (· ^^^ b) h
  simpa [Nat.xor_assoc] using this
theorem xor_inj' {x a b : Nat} (h : x ^^^ a = x ^^^ b) : a = b := by
  rw [Nat.xor_comm x a, Nat.xor_comm x b] at h
  exact xor_inj h
theorem crcFold_inj (l : List Int) (hb : bytesIn l) : ∀ {x y : Nat}, x < 2 ^ 32 → y < 2 ^ 32 → crcFold l x = crcFold l y → x = y := by
  induction l with
  | nil => intro x y _ _ h; exact h
  | cons b l ih =>
    intro x y hx hy h
    have h1 := hb b (by simp)
    have hx2 : x ^^^ b.toNat < 2 ^ 32 := Nat.xor_lt_two_pow hx (by omega)
    have hy2 : y ^^^ b.toNat < 2 ^ 32 := Nat.xor_lt_two_pow hy (by omega)
    exact xor_inj (crc8_inj hx2 hy2 (ih (fun c hc => hb c (by simp [hc])) (crc8_lt hx2) (crc8_lt hy2) h))
theorem crcFold_set (l : List Int) (hb : bytesIn l) : ∀ (i : Nat) (v : Int) (x : Nat), x < 2 ^ 32 → i < l.length → 0 ≤ v → v ≤ 255 → v ≠ l.getD i 0 → crcFold (l.set i v) x ≠ crcFold l x := by
  induction l with
  | nil => intro i v x _ h; simp at h
  | cons b l ih =>
    intro i v x hx hi h0 h1 hv
    have hb1 := hb b (by simp)
    have hbl : bytesIn l := fun c hc => hb c (by simp [hc])
    cases i with
    | zero =>
      intro h
      have hx1 : x ^^^ v.toNat < 2 ^ 32 := Nat.xor_lt_two_pow hx (by omega)
      have hx2 : x ^^^ b.toNat < 2 ^ 32 := Nat.xor_lt_two_pow hx (by omega)
      have := xor_inj' (crc8_inj hx1 hx2 (crcFold_inj l hbl (crc8_lt hx1) (crc8_lt hx2) h))
      apply hv
      show v = b
      omega
    | succ i =>
      have hx2 : x ^^^ b.toNat < 2 ^ 32 := Nat.xor_lt_two_pow hx (by omega)
      exact ih hbl i v _ (crc8_lt hx2) (by simpa using hi) h0 h1 (by simpa using hv)
theorem crcN_range (l : List Int) (hb : bytesIn l) : 0 ≤ crcN l ∧ crcN l ≤ 4294967295 := by
  have h := crcFold_lt l (x := 4294967295) (by decide) hb
  have := Nat.xor_lt_two_pow h (show 4294967295 < 2 ^ 32 by decide)
  unfold crcN
  omega
theorem crcN_set (l : List Int) (hb : bytesIn l) (i : Nat) (v : Int) (hi : i < l.length) (h0 : 0 ≤ v) (h1 : v ≤ 255) (hv : v ≠ l.getD i 0) : crcN (l.set i v) ≠ crcN l := by
  intro h
  unfold crcN at h
  exact crcFold_set l hb i v 4294967295 (by decide) hi h0 h1 hv (xor_inj (b := 4294967295) (by omega))

theorem FnCrc (l : List Int) (h0 : l.length ≤ 9223372036854775807 ∧ ∀ x ∈ l, (Lit.int .u8 x).wf = true) : ∃ k, laws_FnCrc.f k l = some true := by
  apply Ev.rounds
  have hb : bytesIn l := fun x hx => wf_u8 (h0.2 x hx)
  by_cases c : (l.length : Int) > 1048576
  · refine evOf fun k => ?_
    simp only [laws_FnCrc.f, laws_big.f, Option.bind_some, decide_eq_true c, if_true]
  have hl : l.length ≤ 1048576 := by omega
  obtain ⟨b, ⟨hbl, hbb⟩, K, e⟩ := DrawCrc_ex l hb hl
  obtain ⟨K1, e1⟩ := impl_Crc_ev b (by omega) hbb
  obtain ⟨K2, e2⟩ := spec_Crc_ev b (by omega) hbb
  have hr := crcN_range b hbb
  obtain ⟨x2, f2, hx2⟩ := at_ex l 2 hb hl (by decide) (by decide)
  obtain ⟨x3, f3, hx3⟩ := at_ex l 3 hb hl (by decide) (by decide)
  by_cases hz : b.length = 0
  · have hz2 : b = [] := List.length_eq_zero_iff.1 hz
    subst hz2
    refine evSucc ⟨K + K1 + K2, 1, fun k hk => ?_⟩
    have a := e (k + 1) (by omega)
    have a1 := e1 (k + 1) (by omega)
    have a2 := e2 (k + 1) (by omega)
    simp only at a a1 a2
    simp only [laws_FnCrc.f, laws_big.f, Option.bind_some, decide_eq_false c, Bool.false_eq_true, if_false, a, a1, a2, if_true, laws_FnCrc.j0]
    rfl
  · have hp : (0 : Int) < (b.length : Int) := by omega
    have ht0 := Int.tmod_nonneg (b := (b.length : Int)) hx2.1
    have ht1 := Int.tmod_lt_of_pos x2 hp
    have hm0 := Int.tmod_nonneg (b := 255) hx3.1
    have hm1 := Int.tmod_lt_of_pos x3 (show (0 : Int) < 255 by decide)
    have hy := bytesIn_at hbb (Int.tmod x2 (b.length : Int)).toNat
    obtain ⟨y, hyy⟩ := Int.eq_ofNat_of_zero_le hy.1
    obtain ⟨m, hm⟩ := Int.eq_ofNat_of_zero_le (show 0 ≤ 1 + Int.tmod x3 255 by omega)
    have hx8 : y ^^^ m < 2 ^ 8 := Nat.xor_lt_two_pow (by omega) (by omega)
    have hne : y ^^^ m ≠ y := by
      intro h
      have := xor_inj' (x := y) (a := m) (b := 0) (by simpa using h)
      omega
    have hset : bytesIn (b.set (Int.tmod x2 (b.length : Int)).toNat ((y ^^^ m : Nat) : Int)) := by
      intro z hz
      rcases List.mem_or_eq_of_mem_set hz with h | h
      · exact hbb z h
      · rw [h]; omega
    obtain ⟨K3, e3⟩ := impl_Crc_ev (b.set (Int.tmod x2 (b.length : Int)).toNat ((y ^^^ m : Nat) : Int)) (by simp; omega) hset
    have hdiff := crcN_set b hbb (Int.tmod x2 (b.length : Int)).toNat ((y ^^^ m : Nat) : Int) (by omega) (by omega) (by omega) (by rw [hyy]; omega)
    refine evSucc ⟨K + K1 + K2 + K3, 1, fun k hk => ?_⟩
    have a := e (k + 1) (by omega)
    have a1 := e1 (k + 1) (by omega)
    have a2 := e2 (k + 1) (by omega)
    have a3 := e3 k (by omega)
    simp only at a a1 a2 a3
    have hrd : rd b (Int.tmod x2 (b.length : Int)) = (y : Int) := hyy
    simp only [laws_FnCrc.f, laws_big.f, Option.bind_some, decide_eq_false c, Bool.false_eq_true, if_false, a, a1, a2, if_true, laws_FnCrc.j0, List.length_nil, List.nil_append, f2, f3, hrd]
    rw [if_neg (by omega), decide_eq_false (show ¬ crcN b > 4294967295 by omega)]
    simp only [Bool.false_eq_true, if_false]
    rw [if_neg (by omega), if_pos (by omega), if_pos ht0, if_pos ht1, w64 (x := 1 + Int.tmod x3 255) (by omega) (by omega), show (1 + Int.tmod x3 255) % 256 = (m : Int) by omega, xor8 y m (by omega) (by omega), a3]
    simp only [Option.bind_some, Option.some.injEq, bne_iff_ne, ne_eq]
    exact hdiff

end Go.Proofs.Ytbbendmghdccpaa.Pure
