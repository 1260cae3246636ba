/- Whatever the arguments: the law answers true; said of the plain functions that the print made of the Go text, with no condition but that the arguments are of their kinds. -/
import Derived.Test.YtkaoiaolbhklnaaMFnWordsx0
import Derived.Test.YtkaoiaolbhklnaaMFnWordsx1
import Derived.Test.YtkaoiaolbhklnaaMFnWordsx2
import Derived.Test.YtkaoiaolbhklnaaMFnWordsx3
import Derived.Test.YtkaoiaolbhklnaaCore
namespace Go.Proofs.Ytkaoiaolbhklnaa.Pure
open Go.RowKit Go.Proofs.Ytkaoiaolbhklnaa.PFnWords Go.Proofs.Ytkaoiaolbhklnaa.Core Go.Proofs.YtkaoiaolbhklnaaW.PrintWords Go.Proofs.YtkaoiaolbhklnaaW.PrintLast
set_option linter.unusedSimpArgs false
set_option linter.unusedVariables false

def bytesIn (l : List Int) : Prop := ∀ x ∈ l, 0 ≤ x ∧ x ≤ 255
theorem bytesIn_at {l : List Int} (h : bytesIn l) (i : Nat) : 0 ≤ l.getD i 0 ∧ l.getD i 0 ≤ 255 := by
  by_cases hi : i < l.length
  · exact h _ (getD_mem l i 0 hi)
  · rw [List.getD_eq_getElem?_getD, List.getElem?_eq_none (by omega)]; decide
def getW (l : List Int) (a : Int) : Int × Int × Bool := if 0 ≤ a ∧ a ≤ (l.length : Int) - 2 then (l.getD a.toNat 0 * 256 + l.getD (a.toNat + 1) 0, a + 2, true) else (0, 0, false)

/-! The cursor of a draw: bytes, how far, a number that follows from them. -/
def curOk (b : List Int) (i : Int) : Prop := bytesIn b ∧ b.length ≤ 1048576 ∧ 0 ≤ i ∧ i ≤ (b.length : Int)

theorem l1New_ex (b : List Int) (hb : bytesIn b) (hl : b.length ≤ 1048576) : ∃ h, Ev (fun k => spec_l1New.f k b) (b, 0, h) := by
  obtain ⟨r, ⟨h, rfl⟩, K, hk⟩ := evRangeEx (σ := Int) b.length (fun k s i => spec_l1New.l0 k b s i) (fun _ _ => True) (fun r => ∃ h, r = (b, 0, h))
    (by
      intro i s hi _
      by_cases c : i < 4000
      · refine .inl ⟨Go.bits .and .i64 (wrap64 ((wrap64 ((wrap64 (s * 137)) + (wrap64 (rd b (i : Int))))) + 11)) 1073741823, trivial, 0, 1, fun k _ => ?_⟩
        simp only [spec_l1New.l0]
        rw [if_pos (by omega), if_pos (by omega), if_pos (by omega), w64s i (by omega)]
      · refine .inr ⟨(b, 0, s), ⟨s, rfl⟩, 0, 1, fun k _ => ?_⟩
        simp only [spec_l1New.l0]
        rw [if_pos (by omega), if_neg (by omega)])
    (by
      intro s _
      refine ⟨(b, 0, s), ⟨s, rfl⟩, 0, 1, fun k _ => ?_⟩
      simp only [spec_l1New.l0]
      rw [if_neg (by omega)]) 0 (wrap64 (941941 + (b.length : Int))) (Nat.zero_le _) trivial
  exact ⟨h, K, fun k hk' => hk k hk'⟩

theorem l1Byte_ex (b : List Int) (i h : Int) (hc : curOk b i) : ∃ x j g, spec_l1Byte.f b i h = some (x, j, g) ∧ (0 ≤ x ∧ x ≤ 255) ∧ curOk b j := by
  obtain ⟨hb, hl, h0, h1⟩ := hc
  unfold spec_l1Byte.f
  simp only [and255]
  by_cases c : i < (b.length : Int)
  · rw [if_pos c, if_pos h0]
    exact ⟨_, _, _, rfl, ⟨by omega, by omega⟩, hb, hl, by rw [w64 (by omega) (by omega)]; omega, by rw [w64 (by omega) (by omega)]; omega⟩
  · rw [if_neg c]
    exact ⟨_, _, _, rfl, ⟨by omega, by omega⟩, hb, hl, h0, h1⟩

theorem l1Bytes_ex (b : List Int) (i h n : Int) (hc : curOk b i) (h0 : 0 ≤ n) (hn : n ≤ 1048576) : ∃ r : List Int × Int × Int, (r.1.length = n.toNat ∧ bytesIn r.1 ∧ curOk b r.2.1) ∧ Ev (fun k => spec_l1Bytes.f k b i h n) r := by
  obtain ⟨m, rfl⟩ := Int.eq_ofNat_of_zero_le h0
  obtain ⟨r, hp, K, hk⟩ := evRangeEx (σ := List Int × Int × Int) m (fun k s i => spec_l1Bytes.l0 k (m : Int) s.1 i b s.2.1 s.2.2) (fun i s => s.1.length = i ∧ bytesIn s.1 ∧ curOk b s.2.1) (fun r => r.1.length = m ∧ bytesIn r.1 ∧ curOk b r.2.1)
    (by
      rintro i ⟨l, p, q⟩ hi ⟨h1, h2, h3⟩
      simp only at h1 h2 h3
      obtain ⟨x, j, g, e, hx, hj⟩ := l1Byte_ex b p q h3
      refine .inl ⟨(l ++ [x % 256], j, g), ⟨by simp; omega, ?_, hj⟩, 0, 1, fun k _ => ?_⟩
      · intro y hy
        rcases List.mem_append.1 hy with hy | hy
        · exact h2 y hy
        · rw [List.mem_singleton.1 hy]; omega
      · simp only [spec_l1Bytes.l0, e, Option.bind_some]
        rw [if_pos (by omega), if_pos (by omega), w64s i (by omega)])
    (by
      rintro ⟨l, p, q⟩ ⟨h1, h2, h3⟩
      refine ⟨(l, p, q), ⟨h1, h2, h3⟩, 0, 1, fun k _ => ?_⟩
      simp only [spec_l1Bytes.l0]
      rw [if_neg (by omega)]) 0 ([], i, h) (Nat.zero_le _) ⟨rfl, (by intro x hx; cases hx), hc⟩
  exact ⟨r, by simpa using hp, K, fun k hk' => hk k hk'⟩

theorem l1Below_ex (b : List Int) (i h n : Int) (hc : curOk b i) (hn : n ≤ 9223372036854775807) : ∃ x j g, spec_l1Below.f b i h n = some (x, j, g) ∧ (0 ≤ x ∧ (0 < n → x < n) ∧ (n ≤ 0 → x = 0)) ∧ curOk b j := by
  unfold spec_l1Below.f
  by_cases c : n ≤ 0
  · rw [if_pos c]; exact ⟨_, _, _, rfl, ⟨by omega, by omega, fun _ => rfl⟩, hc⟩
  rw [if_neg c]
  by_cases c2 : n ≤ 256
  · rw [if_pos c2]
    obtain ⟨x, j, g, e, hx, hj⟩ := l1Byte_ex b i h hc
    simp only [e, Option.bind_some]
    rw [if_neg (by omega)]
    have h1 := Int.tmod_nonneg (b := n) hx.1
    have h2 := Int.tmod_lt_of_pos x (show 0 < n by omega)
    exact ⟨_, _, _, rfl, ⟨h1, fun _ => h2, fun h => by omega⟩, hj⟩
  · rw [if_neg c2]
    obtain ⟨x, j, g, e, hx, hj⟩ := l1Byte_ex b i h hc
    obtain ⟨x2, j2, g2, e2, hx2, hj2⟩ := l1Byte_ex b j g hj
    obtain ⟨x3, j3, g3, e3, hx3, hj3⟩ := l1Byte_ex b j2 g2 hj2
    simp only [e, e2, e3, Option.bind_some]
    rw [if_neg (by omega), w64 (x := x * 65536) (by omega) (by omega), w64 (x := x2 * 256) (by omega) (by omega), w64 (x := x * 65536 + x2 * 256) (by omega) (by omega), w64 (x := x * 65536 + x2 * 256 + x3) (by omega) (by omega)]
    have h1 := Int.tmod_nonneg (b := n) (show 0 ≤ x * 65536 + x2 * 256 + x3 by omega)
    have h2 := Int.tmod_lt_of_pos (x * 65536 + x2 * 256 + x3) (show 0 < n by omega)
    exact ⟨_, _, _, rfl, ⟨h1, fun _ => h2, fun h => by omega⟩, hj3⟩

theorem impl_joined_ev (ls : List (List Int)) (h : ls.flatten.length ≤ 4194304) (h2 : ls.length ≤ 4194304) : Ev (fun k => impl_joined.f k ls) ls.flatten := by
  obtain ⟨K, hk⟩ := evRange0 (σ := List Int) ls.length (fun k s i => impl_joined.l0 k s ls (ls.length : Int) i) (fun i s => s ++ (ls.drop i).flatten = ls.flatten) (fun _ _ => ls.flatten) [] (by simp)
    (by
      intro i s hi hs
      have hd := drop_getD ls i [] hi
      have hr : rd_L2 ls (i : Int) = ls.getD i [] := by simp [rd_L2]
      rw [hd, List.flatten_cons] at hs
      generalize ls.getD i [] = y at *
      have hl : s.length + y.length ≤ 4194304 := by
        have := congrArg List.length hs
        simp only [List.length_append] at this
        omega
      refine .inl ⟨s ++ y, by rw [List.append_assoc]; exact hs, rfl, 0, 1, fun k _ => ?_⟩
      simp only [impl_joined.l0, hr]
      rw [if_pos (by omega), if_pos (by omega), if_pos (by omega), if_pos (by omega), w64s i (by omega)])
    (by
      intro s hs
      refine ⟨0, 1, fun k _ => ?_⟩
      simp only [impl_joined.l0]
      rw [if_neg (by omega)]
      simpa using hs)
  exact ⟨K, fun k hk' => hk k hk'⟩

def putW (l : List Int) (n : Int) : List Int := l ++ [n / 256 % 256, n % 256]
theorem putW_length (l : List Int) (n : Int) : (putW l n).length = l.length + 2 := by simp [putW]

theorem impl_PutW_ev (l : List Int) (n : Int) (h : l.length ≤ 4194000) : Ev (fun k => impl_PutW.f k l n) (putW l n) := by
  obtain ⟨K, e⟩ := impl_joined_ev [l, [n / 256 % 256, n % 256]] (by simp; omega) (by simp)
  refine ⟨K, fun k hk => ?_⟩
  have e1 := e k hk
  simp only [impl_PutW.f, and255]
  have e2 : n / 256 % 256 % 256 = n / 256 % 256 := by omega
  have e3 : n % 256 % 256 = n % 256 := by omega
  rw [e2, e3]
  simp only at e1
  rw [e1]
  simp [putW]

theorem impl_GetW_ev (l : List Int) (a : Int) (h : l.length ≤ 4194304) (hb : bytesIn l) (ha : -9223372036854775808 ≤ a ∧ a ≤ 9223372036854775807) : impl_GetW.f l a = some (getW l a) := by
  unfold impl_GetW.f getW
  rw [w64 (x := (l.length : Int) - 2) (by omega) (by omega)]
  by_cases c : 0 ≤ a ∧ a ≤ (l.length : Int) - 2
  · rw [if_pos c, if_neg (by omega), if_neg (by omega), if_pos c.1, if_pos (by omega), w64 (x := a + 1) (by omega) (by omega), if_pos (by omega), if_pos (by omega), w64 (x := a + 2) (by omega) (by omega)]
    have e1 : rd l a = l.getD a.toNat 0 := rfl
    have e2 : rd l (a + 1) = l.getD (a.toNat + 1) 0 := by unfold rd; congr 1; omega
    rw [e1, e2, orW (bytesIn_at hb _) (bytesIn_at hb _)]
  · rw [if_neg c]
    by_cases c1 : a < 0
    · rw [if_pos c1]
    · rw [if_neg c1, if_pos (by omega)]

def putText (l : List Int) (s : ByteArray) : List Int := if s.size > 60 then l else putW l s.size ++ bytesOf s
theorem putText_length (l : List Int) (s : ByteArray) : (putText l s).length ≤ l.length + 62 := by
  unfold putText
  split
  · omega
  · rw [List.length_append, putW_length, bytesOf_length]; omega

theorem impl_PutText_ev (l : List Int) (s : ByteArray) (h : l.length ≤ 4194000) : Ev (fun k => impl_PutText.f k l s) (putText l s) := by
  unfold impl_PutText.f putText
  by_cases c : s.size > 60
  · simp only [if_pos (show (s.size : Int) > 60 by omega), if_pos c]
    have := impl_joined_ev [l] (by simp; omega) (by simp)
    simpa using this
  · simp only [if_neg (show ¬ (s.size : Int) > 60 by omega), if_neg c]
    have hl := putW_length l (s.size : Int)
    refine Ev.bind (impl_PutW_ev l _ h) ?_
    have := impl_joined_ev [putW l (s.size : Int), bytesOf s] (by simp [bytesOf_length]; omega) (by simp)
    simpa using this

theorem impl_within_f (a b c : Int) : impl_within.f a b c = some (decide (b ≤ a ∧ a ≤ c)) := by
  unfold impl_within.f
  by_cases h : a ≥ b
  · rw [if_pos h]; congr 1; rw [Bool.eq_iff_iff]; simp; omega
  · rw [if_neg h]; congr 1; rw [Bool.eq_iff_iff]; simp; omega

def nameOk (s : ByteArray) : Bool := allFrom (fun i => decide (97 ≤ bt s i ∧ bt s i ≤ 122) || decide (48 ≤ bt s i ∧ bt s i ≤ 57)) s.size 0 && decide (1 ≤ (s.size : Int) ∧ (s.size : Int) ≤ 6)

theorem impl_NameOk_ev (s : ByteArray) (h : s.size ≤ 4194304) : Ev (fun k => impl_NameOk.f k s) (nameOk s) := by
  have := evAll s.size (fun k i => impl_NameOk.l0 k s i) (fun i => decide (97 ≤ bt s i ∧ bt s i ≤ 122) || decide (48 ≤ bt s i ∧ bt s i ≤ 57)) (decide (1 ≤ (s.size : Int) ∧ (s.size : Int) ≤ 6))
    (by
      intro i hi
      refine ⟨0, 1, fun k _ => ?_⟩
      have hr := bt_range s (i : Int)
      simp only [impl_NameOk.l0, impl_within_f, Option.bind_some]
      rw [if_pos (by omega), if_pos (by omega), w64 (x := bt s i) (by omega) (by omega), w64s i (by omega)]
      cases h1 : decide (97 ≤ bt s i ∧ bt s i ≤ 122) <;> simp only [Bool.true_or, Bool.false_or, if_true, Bool.false_eq_true, if_false])
    (by
      refine ⟨0, 1, fun k _ => ?_⟩
      simp only [impl_NameOk.l0, impl_within_f, Option.bind_some]
      rw [if_neg (by omega)]) 0 (Nat.zero_le _)
  obtain ⟨K, hk⟩ := this
  exact ⟨K, fun k hk' => hk k hk'⟩

theorem spec_l1In_f (a b c : Int) : spec_l1In.f a b c = some (decide (b ≤ a ∧ a ≤ c)) := by
  unfold spec_l1In.f
  by_cases h : a ≥ b
  · rw [if_pos h]; congr 1; rw [Bool.eq_iff_iff]; simp; omega
  · rw [if_neg h]; congr 1; rw [Bool.eq_iff_iff]; simp; omega

theorem spec_NameOk_ev (s : ByteArray) (h : s.size ≤ 4194304) : Ev (fun k => spec_NameOk.f k s) (nameOk s) := by
  have := evAll s.size (fun k i => spec_NameOk.l0 k s i) (fun i => decide (97 ≤ bt s i ∧ bt s i ≤ 122) || decide (48 ≤ bt s i ∧ bt s i ≤ 57)) (decide (1 ≤ (s.size : Int) ∧ (s.size : Int) ≤ 6))
    (by
      intro i hi
      refine ⟨0, 1, fun k _ => ?_⟩
      have hr := bt_range s (i : Int)
      simp only [spec_NameOk.l0, spec_l1In_f, Option.bind_some]
      rw [if_pos (by omega), if_pos (by omega), w64 (x := bt s i) (by omega) (by omega), w64s i (by omega)]
      cases h1 : decide (97 ≤ bt s i ∧ bt s i ≤ 122) <;> simp only [Bool.true_or, Bool.false_or, if_true, Bool.false_eq_true, if_false])
    (by
      refine ⟨0, 1, fun k _ => ?_⟩
      simp only [spec_NameOk.l0, spec_l1In_f, Option.bind_some]
      rw [if_neg (by omega)]) 0 (Nat.zero_le _)
  obtain ⟨K, hk⟩ := this
  exact ⟨K, fun k hk' => hk k hk'⟩

def getText (l : List Int) (a : Int) : ByteArray × Int × Bool :=
  if (getW l a).2.2 = true ∧ (getW l a).1 ≤ 60 ∧ (getW l a).1 ≤ (l.length : Int) - (getW l a).2.1 then
    (strOfNums ((l.take ((getW l a).2.1 + (getW l a).1).toNat).drop (getW l a).2.1.toNat), (getW l a).2.1 + (getW l a).1, true)
  else (⟨#[]⟩, 0, false)
theorem getW_good {l : List Int} {a : Int} (hb : bytesIn l) (h : (getW l a).2.2 = true) : 0 ≤ (getW l a).1 ∧ (getW l a).1 ≤ 65535 ∧ 2 ≤ (getW l a).2.1 ∧ (getW l a).2.1 ≤ (l.length : Int) := by
  unfold getW at h ⊢
  by_cases c : 0 ≤ a ∧ a ≤ (l.length : Int) - 2
  · rw [if_pos c]
    have h1 := bytesIn_at hb a.toNat
    have h2 := bytesIn_at hb (a.toNat + 1)
    simp only
    omega
  · rw [if_neg c] at h; cases h

theorem impl_GetText_ev (l : List Int) (a : Int) (h : l.length ≤ 4194304) (hb : bytesIn l) (ha : -9223372036854775808 ≤ a ∧ a ≤ 9223372036854775807) : impl_GetText.f l a = some (getText l a) := by
  unfold impl_GetText.f getText
  rw [impl_GetW_ev l a h hb ha]
  simp only [Option.bind_some]
  by_cases c : (getW l a).2.2 = true
  · have g := getW_good hb c
    rw [if_pos c, w64 (x := (l.length : Int) - (getW l a).2.1) (by omega) (by omega), w64 (x := (getW l a).2.1 + (getW l a).1) (by omega) (by omega)]
    by_cases c1 : (getW l a).1 > 60
    · rw [if_pos c1, if_neg (by omega)]
    · rw [if_neg c1]
      by_cases c2 : (getW l a).1 > (l.length : Int) - (getW l a).2.1
      · rw [if_pos c2, if_neg (by omega)]
      · rw [if_neg c2, if_pos (by omega), if_pos (by omega), if_pos (by omega), if_pos ⟨c, by omega, by omega⟩]
  · rw [if_neg c, if_neg (fun h => c h.1)]

theorem rd_mem (l : List Int) (i : Int) (h0 : 0 ≤ i) (h1 : i < (l.length : Int)) : rd l i ∈ l := by unfold rd; exact getD_mem l i.toNat 0 (by omega)
theorem l1Int_ex (b : List Int) (i h : Int) (l : List Int) (hc : curOk b i) (hl : 0 < l.length) (hm : l.length ≤ 1048576) : ∃ x j g, spec_l1Int.f b i h l = some (x, j, g) ∧ x ∈ l ∧ curOk b j := by
  obtain ⟨x, j, g, e, hx, hj⟩ := l1Below_ex b i h (l.length : Int) hc (by omega)
  have h1 := hx.2.1 (by omega)
  unfold spec_l1Int.f
  simp only [e, Option.bind_some]
  rw [if_pos hx.1, if_pos h1]
  exact ⟨_, _, _, rfl, rd_mem l x hx.1 h1, hj⟩
theorem l1Num_ex (b : List Int) (i h : Int) (hc : curOk b i) : ∃ x j g, spec_l1Num.f b i h = some (x, j, g) ∧ (-9223372036854775808 ≤ x ∧ x ≤ 9223372036854775807) ∧ curOk b j := by
  obtain ⟨x, j, g, e, hx, hj⟩ := l1Int_ex b i h [0, 1, 7, 255, 256, 4660, 65535, 65536, (-1), 9223372036854775807, (-9223372036854775808)] hc (by decide) (by decide)
  unfold spec_l1Num.f
  simp only [e, Option.bind_some]
  refine ⟨_, _, _, rfl, ?_, hj⟩
  simp only [List.mem_cons, List.not_mem_nil, or_false] at hx
  omega
theorem l1Text_ex (b : List Int) (i h : Int) (hc : curOk b i) : ∃ x j g, spec_l1Text.f b i h = some (x, j, g) ∧ x.size ≤ 7 ∧ curOk b j := by
  unfold spec_l1Text.f spec_l1Str.f
  generalize hL : ([(⟨#[]⟩ : ByteArray), (⟨#[97]⟩ : ByteArray), (⟨#[98, 49]⟩ : ByteArray), (⟨#[115, 105, 120, 108, 101, 116]⟩ : ByteArray), (⟨#[115, 101, 118, 101, 110, 108, 101]⟩ : ByteArray), (⟨#[65]⟩ : ByteArray), (⟨#[97, 32, 98]⟩ : ByteArray), (⟨#[0]⟩ : ByteArray), (⟨#[104, 101, 108, 108, 111]⟩ : ByteArray)] : List ByteArray) = L
  have hall : ∀ y ∈ L, y.size ≤ 7 := by subst hL; decide
  have hlen : L.length = 9 := by subst hL; rfl
  obtain ⟨x, j, g, e, hx, hj⟩ := l1Below_ex b i h (L.length : Int) hc (by omega)
  have h1 := hx.2.1 (by omega)
  simp only [e, Option.bind_some]
  rw [if_pos hx.1, if_pos h1]
  simp only [Option.bind_some]
  exact ⟨_, _, _, rfl, hall _ (getD_mem L x.toNat _ (by omega)), hj⟩
theorem DrawPutW_ex (b : List Int) (hb : bytesIn b) (hl : b.length ≤ 1048576) : ∃ r : List Int × Int, (r.1.length ≤ 3 ∧ bytesIn r.1 ∧ -9223372036854775808 ≤ r.2 ∧ r.2 ≤ 9223372036854775807) ∧ Ev (fun k => spec_DrawPutW.f k b) r := by
  obtain ⟨h, K, e⟩ := l1New_ex b hb hl
  obtain ⟨x, j, g, e2, hx, hj⟩ := l1Below_ex b 0 h 4 ⟨hb, hl, Int.le_refl _, by omega⟩ (by decide)
  obtain ⟨r, ⟨h1, h2, h3⟩, K2, e3⟩ := l1Bytes_ex b j g x hj hx.1 (by have := hx.2.1 (by decide); omega)
  obtain ⟨y, j2, g2, e4, hy, hj2⟩ := l1Num_ex b r.2.1 r.2.2 h3
  refine ⟨(r.1, y), ⟨by have := hx.2.1 (by decide); simp only; omega, h2, hy.1, hy.2⟩, K + K2, fun k hk => ?_⟩
  have a1 := e k (by omega)
  have a2 := e3 k (by omega)
  simp only at a1 a2
  simp only [spec_DrawPutW.f, a1, e2, a2, e4, Option.bind_some]
theorem DrawPutText_ex (b : List Int) (hb : bytesIn b) (hl : b.length ≤ 1048576) : ∃ r : List Int × ByteArray, (r.1.length ≤ 3 ∧ bytesIn r.1 ∧ r.2.size ≤ 61) ∧ Ev (fun k => spec_DrawPutText.f k b) r := by
  obtain ⟨h, K, e⟩ := l1New_ex b hb hl
  obtain ⟨s, j, g, e2, hs, hj⟩ := l1Text_ex b 0 h ⟨hb, hl, Int.le_refl _, by omega⟩
  obtain ⟨x, j2, g2, e3, hx, hj2⟩ := l1Below_ex b j g 10 hj (by decide)
  have eo : spec_l1Once.f b j g 10 = some ((x == 0), j2, g2) := by unfold spec_l1Once.f; simp only [e3, Option.bind_some]
  by_cases c : x = 0
  · obtain ⟨y, j3, g3, e4, hy, hj3⟩ := l1Below_ex b j2 g2 2 hj2 (by decide)
    have hy1 := hy.2.1 (by decide)
    obtain ⟨z, j4, g4, e5, hz, hj4⟩ := l1Below_ex b j3 g3 4 hj3 (by decide)
    obtain ⟨r, ⟨h1, h2, h3⟩, K2, e6⟩ := l1Bytes_ex b j4 g4 z hj4 hz.1 (by have := hz.2.1 (by decide); omega)
    refine ⟨(r.1, strOfNums (List.replicate (60 + y).toNat 0)), ⟨by have := hz.2.1 (by decide); simp only; omega, h2, by simp only [strOfNums_size, List.length_replicate]; omega⟩, K + K2, fun k hk => ?_⟩
    have a1 := e k (by omega)
    have a2 := e6 k (by omega)
    simp only at a1 a2
    simp only [spec_DrawPutText.f, a1, e2, eo, Option.bind_some]
    rw [if_pos (by simp [c])]
    simp only [e4, Option.bind_some, w64 (x := 60 + y) (by omega) (by omega)]
    rw [if_pos (by omega), if_pos (by omega)]
    simp only [e5, a2, Option.bind_some]
  · obtain ⟨z, j4, g4, e5, hz, hj4⟩ := l1Below_ex b j2 g2 4 hj2 (by decide)
    obtain ⟨r, ⟨h1, h2, h3⟩, K2, e6⟩ := l1Bytes_ex b j4 g4 z hj4 hz.1 (by have := hz.2.1 (by decide); omega)
    refine ⟨(r.1, s), ⟨by have := hz.2.1 (by decide); simp only; omega, h2, by simp only; omega⟩, K + K2, fun k hk => ?_⟩
    have a1 := e k (by omega)
    have a2 := e6 k (by omega)
    simp only at a1 a2
    simp only [spec_DrawPutText.f, a1, e2, eo, Option.bind_some]
    rw [if_neg (by simp [c])]
    simp only [e5, a2, Option.bind_some]
theorem DrawNameOk_ex (b : List Int) (hb : bytesIn b) (hl : b.length ≤ 1048576) : ∃ s : ByteArray, s.size ≤ 7 ∧ Ev (fun k => spec_DrawNameOk.f k b) s := by
  obtain ⟨h, K, e⟩ := l1New_ex b hb hl
  obtain ⟨s, j, g, e2, hs, hj⟩ := l1Text_ex b 0 h ⟨hb, hl, Int.le_refl _, by omega⟩
  refine ⟨s, hs, K, fun k hk => ?_⟩
  have a1 := e k (by omega)
  simp only at a1
  simp only [spec_DrawNameOk.f, a1, e2, Option.bind_some]
theorem and65535 (x : Int) : Go.bits .and .i64 x 65535 = x % 65536 := by
  have e : (BitVec.ofInt IntKind.i64.bits x &&& BitVec.ofInt IntKind.i64.bits 65535).toNat = (x % 65536).toNat := by
    rw [BitVec.toNat_and, BitVec.toNat_ofInt, BitVec.toNat_ofInt]
    have h2 : ((65535 : Int) % ((2 ^ IntKind.i64.bits : Nat) : Int)).toNat = 2 ^ 16 - 1 := by decide
    rw [h2, Nat.and_two_pow_sub_one_eq_mod]
    have h3 : ((2 ^ IntKind.i64.bits : Nat) : Int) = 18446744073709551616 := by decide
    rw [h3]
    omega
  unfold Go.bits
  simp only [e]
  rw [IntKind.wrap_i64]
  omega
theorem bytesIn_append {a b : List Int} (ha : bytesIn a) (hb : bytesIn b) : bytesIn (a ++ b) := fun x hx => (List.mem_append.1 hx).elim (ha x) (hb x)
theorem bytesIn_putW {b : List Int} (n : Int) (hb : bytesIn b) : bytesIn (putW b n) := by
  refine bytesIn_append hb (fun x hx => ?_)
  simp only [List.mem_cons, List.not_mem_nil, or_false] at hx
  omega
theorem bytesIn_bytesOf (s : ByteArray) : bytesIn (bytesOf s) := by
  intro x hx
  obtain ⟨y, _, rfl⟩ := List.mem_map.1 hx
  have := y.toNat_lt
  omega
theorem bytesIn_take {b : List Int} (n : Nat) (hb : bytesIn b) : bytesIn (b.take n) := fun x hx => hb x (List.mem_of_mem_take hx)
theorem getW_putW (b : List Int) (n : Int) (t : List Int) : getW (putW b n ++ t) (b.length : Int) = (n % 65536, (b.length : Int) + 2, true) := by
  unfold getW putW
  have h1 : ((b ++ [n / 256 % 256, n % 256] ++ t).length : Int) = (b.length : Int) + 2 + t.length := by simp; omega
  rw [if_pos (by omega)]
  have e1 : (b ++ [n / 256 % 256, n % 256] ++ t).getD (b.length : Int).toNat 0 = n / 256 % 256 := by
    rw [Int.toNat_natCast, List.append_assoc, List.getD_eq_getElem?_getD, List.getElem?_append_right (by omega)]; simp
  have e2 : (b ++ [n / 256 % 256, n % 256] ++ t).getD ((b.length : Int).toNat + 1) 0 = n % 256 := by
    rw [Int.toNat_natCast, List.append_assoc, List.getD_eq_getElem?_getD, List.getElem?_append_right (by omega)]; simp
  rw [e1, e2]
  congr 1
  omega
theorem getW_short (b : List Int) (n : Int) (h : (b.length : Int) < n + 2) : getW b n = (0, 0, false) := by
  unfold getW
  rw [if_neg (by omega)]
theorem strOfNums_bytesOf (s : ByteArray) : strOfNums (bytesOf s) = s := by
  have h : (strOfNums (bytesOf s)).data = s.data := by
    apply Array.toList_inj.1
    rw [strOfNums_data]
    simp only [bytesOf, List.map_map]
    conv => rhs; rw [← List.map_id s.data.toList]
    apply List.map_congr_left
    intro y _
    simp
  cases hs : strOfNums (bytesOf s)
  cases s
  simp_all
theorem FnWords (l : List Int) (h0 : l.length ≤ 9223372036854775807 ∧ ∀ x ∈ l, (Lit.int .u8 x).wf = true) : ∃ k, laws_FnWords.f k l = some true := by
  apply Ev.rounds
  have hb : bytesIn l := fun x hx => wf_u8 (h0.2 x hx)
  by_cases c : (l.length : Int) > 1048576
  · refine evOf fun k => ?_
    simp only [laws_FnWords.f, laws_big.f, Option.bind_some, decide_eq_true c, if_true]
  have hl : l.length ≤ 1048576 := by omega
  obtain ⟨⟨b, n⟩, ⟨hbl, hbb, hn0, hn1⟩, K, e⟩ := DrawPutW_ex l hb hl
  obtain ⟨⟨t, s⟩, ⟨htl, htb, hsl⟩, K1, e1⟩ := DrawPutText_ex l hb hl
  obtain ⟨a, hal, K2, e2⟩ := DrawNameOk_ex l hb hl
  simp only at hbl hbb hn0 hn1 htl htb hsl
  obtain ⟨K3, e3⟩ := impl_PutW_ev b n (by omega)
  obtain ⟨K4, e4⟩ := impl_PutText_ev t s (by omega)
  obtain ⟨K5, e5⟩ := impl_NameOk_ev a (by omega)
  obtain ⟨K6, e6⟩ := spec_NameOk_ev a (by omega)
  have hpl := putW_length b n
  have hp := bytesIn_putW n hbb
  have g1 := impl_GetW_ev (putW b n) (b.length : Int) (by omega) hp (by omega)
  have g1' : getW (putW b n) (b.length : Int) = (n % 65536, (b.length : Int) + 2, true) := by have := getW_putW b n []; rwa [List.append_nil] at this
  have g2 := impl_GetW_ev ((putW b n).take (b.length + 1)) (b.length : Int) (by rw [List.length_take]; omega) (bytesIn_take _ hp) (by omega)
  have g2' : getW ((putW b n).take (b.length + 1)) (b.length : Int) = (0, 0, false) := getW_short _ _ (by rw [List.length_take]; omega)
  rw [g1'] at g1
  rw [g2'] at g2
  have hw : wrap64 (((putW b n).length : Int) - 1) = ((b.length + 1 : Nat) : Int) := by rw [w64 (by omega) (by omega)]; omega
  have key : ∃ K7, ∀ k, K7 ≤ k → laws_FnWords.j0 k t s (putText t s) false = some true := by
    by_cases c2 : s.size > 60
    · refine ⟨1, fun k hk => ?_⟩
      obtain ⟨k, rfl⟩ : ∃ m, k = m + 1 := ⟨k - 1, by omega⟩
      simp only [laws_FnWords.j0, Bool.false_eq_true, if_false, putText, if_pos c2]
      rw [if_pos (by omega)]
      simp
    · have hq : putText t s = putW t (s.size : Int) ++ bytesOf s := by simp only [putText, if_neg c2]
      have hql : (putText t s).length = t.length + 2 + s.size := by rw [hq, List.length_append, putW_length, bytesOf_length]
      have hqb : bytesIn (putText t s) := by rw [hq]; exact bytesIn_append (bytesIn_putW _ htb) (bytesIn_bytesOf s)
      have hm : (s.size : Int) % 65536 = s.size := by omega
      have f1 := impl_GetText_ev (putText t s) (t.length : Int) (by omega) hqb (by omega)
      have w1 : getW (putText t s) (t.length : Int) = ((s.size : Int), (t.length : Int) + 2, true) := by rw [hq, getW_putW, hm]
      have x1 : getText (putText t s) (t.length : Int) = (s, (t.length : Int) + 2 + s.size, true) := by
        unfold getText
        rw [w1]
        simp only
        rw [if_pos ⟨trivial, by omega, by omega⟩]
        congr 1
        have h1 : ((t.length : Int) + 2 + (s.size : Int)).toNat = (putText t s).length := by omega
        have h2 : ((t.length : Int) + 2).toNat = (putW t (s.size : Int)).length := by rw [putW_length]; omega
        rw [h1, List.take_length, h2, hq, List.drop_left, strOfNums_bytesOf]
      have f2 := impl_GetText_ev ((putText t s).take ((putText t s).length - 1)) (t.length : Int) (by rw [List.length_take]; omega) (bytesIn_take _ hqb) (by omega)
      have x2 : (getText ((putText t s).take ((putText t s).length - 1)) (t.length : Int)).2.2 = false := by
        by_cases c3 : s.size = 0
        · have w2 : getW ((putText t s).take ((putText t s).length - 1)) (t.length : Int) = (0, 0, false) := getW_short _ _ (by rw [List.length_take]; omega)
          unfold getText
          rw [w2]
          simp
        · have h3 : (putText t s).take ((putText t s).length - 1) = putW t (s.size : Int) ++ (bytesOf s).take (s.size - 1) := by
            have h5 := putW_length t (s.size : Int)
            rw [hql, hq, List.take_append, List.take_of_length_le (by omega)]
            congr 2
            omega
          have w2 : getW ((putText t s).take ((putText t s).length - 1)) (t.length : Int) = ((s.size : Int), (t.length : Int) + 2, true) := by rw [h3, getW_putW, hm]
          unfold getText
          rw [w2]
          simp only
          rw [if_neg (fun h4 => by have := h4.2.2; rw [List.length_take] at this; omega)]
      have hw2 : wrap64 (((putText t s).length : Int) - 1) = (((putText t s).length - 1 : Nat) : Int) := by rw [w64 (by omega) (by omega)]; omega
      refine ⟨1, fun k hk => ?_⟩
      obtain ⟨k, rfl⟩ : ∃ m, k = m + 1 := ⟨k - 1, by omega⟩
      simp only [laws_FnWords.j0, Bool.false_eq_true, if_false, hw2, Int.toNat_natCast, f1, x1, f2, Option.bind_some]
      rw [if_neg (by omega), if_pos (by omega), if_pos (by omega), x2, if_pos trivial, if_pos trivial, if_pos (by omega)]
      rfl
  obtain ⟨K7, e7⟩ := key
  refine ⟨K + K1 + K2 + K3 + K4 + K5 + K6 + K7, fun k hk => ?_⟩
  have a0 := e k (by omega)
  have a1 := e1 k (by omega)
  have a2 := e2 k (by omega)
  have a3 := e3 k (by omega)
  have a4 := e4 k (by omega)
  have a5 := e5 k (by omega)
  have a6 := e6 k (by omega)
  have a7 := e7 k (by omega)
  simp only at a0 a1 a2 a3 a4 a5 a6
  simp only [laws_FnWords.f, laws_big.f, Option.bind_some, decide_eq_false c, Bool.false_eq_true, if_false, a0, a3, g1, hw, Int.toNat_natCast, g2, a1, a4, a2, a5, a6, bne_self_eq_false, if_true, and65535]
  rw [if_pos (by omega), if_pos (by omega), if_pos (by omega)]
  exact a7

end Go.Proofs.Ytkaoiaolbhklnaa.Pure
