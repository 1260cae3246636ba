/- The law: the functions that it reaches, each with the proof that the machine's call comes to its answer, what they answer, and the law's row; each theorem says its conditions itself. -/
import Derived.Test.YtilhcaofpfeioaaZFnFalls3
import Derived.ChangeArms
import Derived.ChangeShapes
import Derived.WideShapes
import Derived.Test.YtilhcaofpfeioaaRows
import Derived.WalkKit
import Derived.ProofKit
import Derived.OpenShut
import Derived.ShutString
import Derived.ChangeOld
import Derived.Below
import Derived.SizedLaws
namespace Go.Proofs.Ytilhcaofpfeioaa.Pure
open Go.Proofs.Ytilhcaofpfeioaa.Law
open Go.RowKit Go.Proofs.Ytilhcaofpfeioaa.PFnFalls Go.Proofs.Ytilhcaofpfeioaa.Core Go.Proofs.YtilhcaofpfeioaaW.PrintWords Go.Proofs.YtilhcaofpfeioaaW.PrintLast
set_option linter.unusedSimpArgs false
set_option linter.unusedVariables false
def bytesIn (l : List Int) : Prop := ∀ x ∈ l, 0 ≤ x ∧ x ≤ 255
theorem bytesIn_at {l : List Int} (h : bytesIn l) (i : Nat) : 0 ≤ l.getD i 0 ∧ l.getD i 0 ≤ 255 := by
 by_cases hi : i < l.length
 ·exact h _ (getD_mem l i 0 hi)
 ·rw [List.getD_eq_getElem?_getD, List.getElem?_eq_none (by omega)]; decide
def getW (l : List Int) (a : Int) : Int × Int × Bool := if 0 ≤ a ∧ a ≤ (l.length : Int) - 2 then (l.getD a.toNat 0 * 256 + l.getD (a.toNat + 1) 0, a + 2, true) else (0, 0, false)
def curOk (b : List Int) (i : Int) : Prop := bytesIn b ∧ b.length ≤ 1048576 ∧ 0 ≤ i ∧ i ≤ (b.length : Int)
theorem at_ex (l : List Int) (a : Int) (hb : bytesIn l) (hl : l.length ≤ 1048576) (h0 : 0 ≤ a) (h1 : a ≤ 1000) : ∃ x, laws_at.f l a = some x ∧ 0 ≤ x ∧ x ≤ 255 := by
 unfold laws_at.f
 by_cases c : a < (l.length : Int)
 ·rw [if_pos c, if_pos h0]
  have h := bytesIn_at hb a.toNat
  have e : rd l a = l.getD a.toNat 0 := rfl
  rw [e, w64 (by omega) (by omega)]
  exact ⟨_, rfl, h.1, h.2⟩
 ·rw [if_neg c]
  rw [w64 (x := a * 31) (by omega) (by omega), w64 (x := (l.length : Int) * 7) (by omega) (by omega), w64 (by omega) (by omega)]
  have h2 := Int.tmod_nonneg (b := 256) (show 0 ≤ a * 31 + (l.length : Int) * 7 by omega)
  have h3 := Int.tmod_lt_of_pos (a * 31 + (l.length : Int) * 7) (show (0 : Int) < 256 by decide)
  exact ⟨_, rfl, h2, by omega⟩
theorem l1New_ex (b : List Int) (hb : bytesIn b) (hl : b.length ≤ 1048576) : ∃ h, Ev (fun k => spec_l1New.f k b) (b, 0, h) := by
 obtain ⟨r, ⟨h, rfl⟩, K, hk⟩ := evRangeEx (σ := Int) b.length (fun k s i => spec_l1New.l0 k b s i) (fun _ _ => True) (fun r => ∃ h, r = (b, 0, h))
  (by
   intro i s hi _
   by_cases c : i < 4000
   ·refine .inl ⟨Go.bits .and .i64 (wrap64 ((wrap64 ((wrap64 (s * 137)) + (wrap64 (rd b (i : Int))))) + 11)) 1073741823, trivial, 0, 1, fun k _ => ?_⟩
    simp only [spec_l1New.l0]
    rw [if_pos (by omega), if_pos (by omega), if_pos (by omega), w64s i (by omega)]
   ·refine .inr ⟨(b, 0, s), ⟨s, rfl⟩, 0, 1, fun k _ => ?_⟩
    simp only [spec_l1New.l0]
    rw [if_pos (by omega), if_neg (by omega)])
  (by
   intro s _
   refine ⟨(b, 0, s), ⟨s, rfl⟩, 0, 1, fun k _ => ?_⟩
   simp only [spec_l1New.l0]
   rw [if_neg (by omega)]) 0 (wrap64 (941941 + (b.length : Int))) (Nat.zero_le _) trivial
 exact ⟨h, K, fun k hk' => hk k hk'⟩
theorem spec_l1In_f (a b c : Int) : spec_l1In.f a b c = some (decide (b ≤ a ∧ a ≤ c)) := by
 unfold spec_l1In.f
 by_cases h : a ≥ b
 ·rw [if_pos h]; congr 1; rw [Bool.eq_iff_iff]; simp; omega
 ·rw [if_neg h]; congr 1; rw [Bool.eq_iff_iff]; simp; omega
def devNew (n : Int) : List (List Int) × List S50 × Int × Bool := if 1 ≤ n ∧ n ≤ 60 then (List.replicate n.toNat [], [], -1, false) else ([], [], 0, false)
theorem spec_DevNew_ev (n : Int) : Ev (fun k => spec_DevNew.f k n) (devNew n) := by
 unfold spec_DevNew.f devNew
 simp only [spec_l1In_f, Option.bind_some]
 by_cases c : 1 ≤ n ∧ n ≤ 60
 ·simp only [decide_eq_true c, if_true, if_pos c]
  obtain ⟨m, rfl⟩ := Int.eq_ofNat_of_zero_le (show 0 ≤ n by omega)
  obtain ⟨K, hk⟩ := evRange0 (σ := List (List Int)) m (fun k s i => spec_DevNew.l0 k (m : Int) i s (-1) false) (fun i s => s = List.replicate i []) (fun _ _ => (List.replicate m [], [], -1, false)) [] rfl
   (by
    intro i s hi hs
    subst hs
    refine .inl ⟨_, rfl, rfl, 0, 1, fun k _ => ?_⟩
    simp only [spec_DevNew.l0]
    rw [if_pos (by omega), if_pos (by rw [List.length_replicate]; omega), w64s i (by omega), List.replicate_succ'])
   (by
    intro s hs
    subst hs
    refine ⟨0, 1, fun k _ => ?_⟩
    simp only [spec_DevNew.l0]
    rw [if_neg (by omega)])
  exact ⟨K, fun k hk' => by simpa using hk k hk'⟩
 ·simp only [decide_eq_false c, if_neg c]
  exact evOf fun _ => by simp
theorem l1Byte_ex (b : List Int) (i h : Int) (hc : curOk b i) : ∃ x j g, spec_l1Byte.f b i h = some (x, j, g) ∧ (0 ≤ x ∧ x ≤ 255) ∧ curOk b j := by
 obtain ⟨hb, hl, h0, h1⟩ := hc
 unfold spec_l1Byte.f
 simp only [and255]
 by_cases c : i < (b.length : Int)
 ·rw [if_pos c, if_pos h0]
  exact ⟨_, _, _, rfl, ⟨by omega, by omega⟩, hb, hl, by rw [w64 (by omega) (by omega)]; omega, by rw [w64 (by omega) (by omega)]; omega⟩
 ·rw [if_neg c]
  exact ⟨_, _, _, rfl, ⟨by omega, by omega⟩, hb, hl, h0, h1⟩
theorem l1Bytes_ex (b : List Int) (i h n : Int) (hc : curOk b i) (h0 : 0 ≤ n) (hn : n ≤ 1048576) : ∃ r : List Int × Int × Int, (r.1.length = n.toNat ∧ bytesIn r.1 ∧ curOk b r.2.1) ∧ Ev (fun k => spec_l1Bytes.f k b i h n) r := by
 obtain ⟨m, rfl⟩ := Int.eq_ofNat_of_zero_le h0
 obtain ⟨r, hp, K, hk⟩ := evRangeEx (σ := List Int × Int × Int) m (fun k s i => spec_l1Bytes.l0 k (m : Int) s.1 i b s.2.1 s.2.2) (fun i s => s.1.length = i ∧ bytesIn s.1 ∧ curOk b s.2.1) (fun r => r.1.length = m ∧ bytesIn r.1 ∧ curOk b r.2.1)
  (by
   rintro i ⟨l, p, q⟩ hi ⟨h1, h2, h3⟩
   simp only at h1 h2 h3
   obtain ⟨x, j, g, e, hx, hj⟩ := l1Byte_ex b p q h3
   refine .inl ⟨(l ++ [x % 256], j, g), ⟨by simp; omega, ?_, hj⟩, 0, 1, fun k _ => ?_⟩
   ·intro y hy
    rcases List.mem_append.1 hy with hy | hy
    ·exact h2 y hy
    ·rw [List.mem_singleton.1 hy]; omega
   ·simp only [spec_l1Bytes.l0, e, Option.bind_some]
    rw [if_pos (by omega), if_pos (by omega), w64s i (by omega)])
  (by
   rintro ⟨l, p, q⟩ ⟨h1, h2, h3⟩
   refine ⟨(l, p, q), ⟨h1, h2, h3⟩, 0, 1, fun k _ => ?_⟩
   simp only [spec_l1Bytes.l0]
   rw [if_neg (by omega)]) 0 ([], i, h) (Nat.zero_le _) ⟨rfl, (by intro x hx; cases hx), hc⟩
 exact ⟨r, by simpa using hp, K, fun k hk' => hk k hk'⟩
theorem l1Below_ex (b : List Int) (i h n : Int) (hc : curOk b i) (hn : n ≤ 9223372036854775807) : ∃ x j g, spec_l1Below.f b i h n = some (x, j, g) ∧ (0 ≤ x ∧ (0 < n → x < n) ∧ (n ≤ 0 → x = 0)) ∧ curOk b j := by
 unfold spec_l1Below.f
 by_cases c : n ≤ 0
 ·rw [if_pos c]; exact ⟨_, _, _, rfl, ⟨by omega, by omega, fun _ => rfl⟩, hc⟩
 rw [if_neg c]
 by_cases c2 : n ≤ 256
 ·rw [if_pos c2]
  obtain ⟨x, j, g, e, hx, hj⟩ := l1Byte_ex b i h hc
  simp only [e, Option.bind_some]
  rw [if_neg (by omega)]
  have h1 := Int.tmod_nonneg (b := n) hx.1
  have h2 := Int.tmod_lt_of_pos x (show 0 < n by omega)
  exact ⟨_, _, _, rfl, ⟨h1, fun _ => h2, fun h => by omega⟩, hj⟩
 ·rw [if_neg c2]
  obtain ⟨x, j, g, e, hx, hj⟩ := l1Byte_ex b i h hc
  obtain ⟨x2, j2, g2, e2, hx2, hj2⟩ := l1Byte_ex b j g hj
  obtain ⟨x3, j3, g3, e3, hx3, hj3⟩ := l1Byte_ex b j2 g2 hj2
  simp only [e, e2, e3, Option.bind_some]
  rw [if_neg (by omega), w64 (x := x * 65536) (by omega) (by omega), w64 (x := x2 * 256) (by omega) (by omega), w64 (x := x * 65536 + x2 * 256) (by omega) (by omega), w64 (x := x * 65536 + x2 * 256 + x3) (by omega) (by omega)]
  have h1 := Int.tmod_nonneg (b := n) (show 0 ≤ x * 65536 + x2 * 256 + x3 by omega)
  have h2 := Int.tmod_lt_of_pos (x * 65536 + x2 * 256 + x3) (show 0 < n by omega)
  exact ⟨_, _, _, rfl, ⟨h1, fun _ => h2, fun h => by omega⟩, hj3⟩
def putW (l : List Int) (n : Int) : List Int := l ++ [n / 256 % 256, n % 256]
def keyOk5 (a b c d e : Int) : Bool := decide (0 ≤ a ∧ a ≤ 15) && (decide (1 ≤ b ∧ b ≤ 60) && (decide (0 ≤ c ∧ c ≤ 2) && if c = 1 then decide (0 ≤ d ∧ d ≤ 23) && decide (0 ≤ e ∧ e ≤ 999) else decide (d = 0) && decide (e = 0)))
def putKey (l : List Int) (a b c d e : Int) : List Int := if keyOk5 a b c d e = true then putW (l ++ [a % 256, b % 256, c % 256, d % 256]) e else l
def okD (m : Nat) (s : List (List Int)) (c : List S50) : Prop := (2 ≤ s.length ∧ s.length ≤ 7) ∧ (∀ x ∈ s, x.length ≤ 4) ∧ c.length ≤ m ∧ ∀ x ∈ c, (0 ≤ x.f0 ∧ x.f0 < (s.length : Int)) ∧ x.f1.length ≤ 4
theorem okD_at {m : Nat} {s : List (List Int)} {c : List S50} (h : okD m s c) (i : Nat) (hi : i < c.length) : (0 ≤ (c.getD i z50).f0 ∧ (c.getD i z50).f0 < (s.length : Int)) ∧ (c.getD i z50).f1.length ≤ 4 := h.2.2.2 _ (getD_mem c i z50 hi)
theorem burnF_none (d : Bool) : burnF (-1) d = (-1, d, true) := by unfold burnF; rw [if_neg (by decide), if_neg (by decide)]
theorem flushed_none (s : List (List Int)) (c : List S50) : flushed s c (-1) false = (flushSecs s c c.length, [], -1, false) := by
 unfold flushed
 rw [if_neg (by decide), burnF_none]
 rfl
theorem flushSecs_small {m : Nat} {s : List (List Int)} {c : List S50} (h : okD m s c) : ∀ i, i ≤ c.length → ∀ x ∈ flushSecs s c i, x.length ≤ 4
 | 0, _, x, hx => h.2.1 x hx
 | i + 1, hi, x, hx => by
  unfold flushSecs at hx
  rcases List.mem_or_eq_of_mem_set hx with q | q
  ·exact flushSecs_small h i (by omega) x q
  ·rw [q]; exact (okD_at h i (by omega)).2
theorem fallSecs_small {m : Nat} {s : List (List Int)} {c : List S50} (k : Int) (h : okD m s c) : ∀ i, i ≤ c.length → ∀ x ∈ fallSecs s c k i, x.length ≤ 4
 | 0, _, x, hx => h.2.1 x hx
 | i + 1, hi, x, hx => by
  unfold fallSecs at hx
  split at hx
  ·rcases List.mem_or_eq_of_mem_set hx with q | q
   ·exact fallSecs_small k h i (by omega) x q
   ·rw [q]; exact (okD_at h i (by omega)).2
  ·exact fallSecs_small k h i (by omega) x hx
theorem okD_flush {m n : Nat} {s : List (List Int)} {c : List S50} (h : okD m s c) : okD n (flushSecs s c c.length) [] := by
 refine ⟨by rw [flushSecs_length]; exact h.1, flushSecs_small h _ (Nat.le_refl _), by simp, fun x hx => by cases hx⟩
theorem okD_mono {m n : Nat} {s : List (List Int)} {c : List S50} (h : okD m s c) (hn : m ≤ n) : okD n s c := ⟨h.1, h.2.1, by have := h.2.2.1; omega, h.2.2.2⟩
theorem flOk_of {m : Nat} {s : List (List Int)} {c : List S50} (h : okD m s c) (hm : m ≤ 100) : flOk s c = true := by
 unfold flOk
 rw [Bool.and_eq_true, decide_eq_true_eq]
 refine ⟨by have := h.2.2.1; omega, allFrom_iff.2 fun i _ hi => ?_⟩
 simp only [decide_eq_true_eq]
 exact (okD_at h i hi).1
theorem wrote_none (s : List (List Int)) (c : List S50) (n : Int) (b : List Int) : wrote s c (-1) false n b = (if putsB s c false n b = true then c ++ [⟨n, b⟩] else c, -1, false) := by
 unfold wrote
 rw [burnF_none]
 split <;> rfl
theorem okD_wrote {m : Nat} {s : List (List Int)} {c : List S50} (n : Int) (b : List Int) (h : okD m s c) (hn : 0 ≤ n ∧ n < (s.length : Int)) (hb : b.length ≤ 4) : okD (m + 1) s (if putsB s c false n b = true then c ++ [⟨n, b⟩] else c) := by
 split
 ·refine ⟨h.1, h.2.1, by rw [List.length_append]; have := h.2.2.1; simp only [List.length_cons, List.length_nil]; omega, fun x hx => ?_⟩
  rcases List.mem_append.1 hx with hx | hx
  ·exact h.2.2.2 x hx
  ·rw [List.mem_singleton.1 hx]; exact ⟨hn, hb⟩
 ·exact okD_mono h (by omega)
theorem l2Go_ex (b : List Int) : ∀ (n m : Nat) (s : List (List Int)) (c : List S50) (j g : Int), n + m ≤ 8 → okD m s c → curOk b j → ∃ s' c' j' g', okD 8 s' c' ∧ Ev (fun k => spec_l2Draw.l0 k (n : Int) s c (-1) false b j g) (s', c', -1, false, j', g')
 | 0, m, s, c, j, g, hm, hd, hc => ⟨s, c, j, g, okD_mono hd (by omega), evSucc ⟨0, 1, fun k _ => by simp only [spec_l2Draw.l0]; rw [if_neg (by omega)]⟩⟩
 | n + 1, m, s, c, j, g, hm, hd, hc => by
  obtain ⟨x, j1, g1, e, hx, hj1⟩ := l1Below_ex b j g 4 hc (by decide)
  cases hz : (x == 0) with
  | true =>
   obtain ⟨s', c', j', g', hok, K, hK⟩ := l2Go_ex b n (m + 1) (flushSecs s c c.length) [] j1 g1 (by omega) (okD_flush hd) hj1
   refine ⟨s', c', j', g', hok, evSucc ⟨K, 1, fun k hk => ?_⟩⟩
   have a1 := hK k hk
   simp only at a1
   simp only [spec_l2Draw.l0, spec_l1Once.f, e, Option.bind_some, hz, if_true]
   rw [if_pos (by omega), if_pos (flOk_of hd (by omega)), flushed_none, w64 (x := ((n + 1 : Nat) : Int) - 1) (by omega) (by omega), show ((n + 1 : Nat) : Int) - 1 = (n : Int) by omega]
   exact a1
  | false =>
   have hsl := hd.1
   obtain ⟨y, j2, g2, e2, hy, hj2⟩ := l1Below_ex b j1 g1 (s.length : Int) hj1 (by omega)
   obtain ⟨z, j3, g3, e3, hz3, hj3⟩ := l1Below_ex b j2 g2 4 hj2 (by decide)
   have hz4 := hz3.2.1 (by decide)
   obtain ⟨⟨r, j4, g4⟩, ⟨hr, _, hj4⟩, K2, hK2⟩ := l1Bytes_ex b j3 g3 z hj3 hz3.1 (by omega)
   simp only at hr hj4
   obtain ⟨s', c', j', g', hok, K, hK⟩ := l2Go_ex b n (m + 1) s _ j4 g4 (by omega) (okD_wrote y r hd ⟨hy.1, hy.2.1 (by omega)⟩ (by omega)) hj4
   refine ⟨s', c', j', g', hok, evSucc ⟨K + K2, 1, fun k hk => ?_⟩⟩
   have a1 := hK k (by omega)
   have a2 := hK2 k (by omega)
   simp only at a1 a2
   simp only [spec_l2Draw.l0, spec_l1Once.f, e, Option.bind_some, hz, Bool.false_eq_true, if_false, e2, e3, a2]
   rw [if_pos (by omega), wrote_none, w64 (x := ((n + 1 : Nat) : Int) - 1) (by omega) (by omega), show ((n + 1 : Nat) : Int) - 1 = (n : Int) by omega]
   exact a1
theorem DrawDev_ex (b : List Int) (hb : bytesIn b) (hl : b.length ≤ 1048576) : ∃ s c, okD 8 s c ∧ Ev (fun k => spec_DrawDev.f k b) (s, c, -1, false) := by
 obtain ⟨h, K0, e0⟩ := l1New_ex b hb hl
 obtain ⟨x, j1, g1, e1, hx, hj1⟩ := l1Below_ex b 0 h 6 ⟨hb, hl, by omega, by omega⟩ (by decide)
 have hx6 := hx.2.1 (by decide)
 obtain ⟨K1, hK1⟩ := spec_DevNew_ev (2 + x)
 obtain ⟨n, j2, g2, e2, hn, hj2⟩ := l1Below_ex b j1 g1 8 hj1 (by decide)
 have hn8 := hn.2.1 (by decide)
 obtain ⟨m, rfl⟩ := Int.eq_ofNat_of_zero_le hn.1
 have hdn : devNew (2 + x) = (List.replicate (2 + x).toNat [], [], -1, false) := by unfold devNew; rw [if_pos (by omega)]
 have hok : okD 0 (List.replicate (2 + x).toNat ([] : List Int)) ([] : List S50) := ⟨by rw [List.length_replicate]; omega, fun y hy => by rw [(List.mem_replicate.1 hy).2]; simp, by simp, fun y hy => by cases hy⟩
 obtain ⟨s', c', j', g', hok', K2, hK2⟩ := l2Go_ex b m 0 _ _ j2 g2 (by omega) hok hj2
 refine ⟨s', c', hok', K0 + K1 + K2, fun k hk => ?_⟩
 have a1 := hK1 k (by omega)
 have a2 := hK2 k (by omega)
 rw [hdn] at a1
 simp only at a1 a2
 simp only [spec_DrawDev.f, spec_l2Draw.f, spec_l2Draw.g, e0 k (by omega), e1, Option.bind_some, w64 (x := 2 + x) (by omega) (by omega), a1, e2, a2]
theorem getD_set (s : List (List Int)) (t i : Nat) (x : List Int) (hi : i < s.length) : (s.set t x).getD i [] = if t = i then x else s.getD i [] := by
 rw [List.getD_eq_getElem?_getD, List.getElem?_set, List.getD_eq_getElem?_getD]
 by_cases h : t = i
 ·subst h; simp [hi]
 ·rw [if_neg h, if_neg h]
theorem fall_prop {m : Nat} {s : List (List Int)} {c : List S50} (k : Int) (h : okD m s c) (i : Nat) (hi : i < s.length) : ∀ n, n ≤ c.length → (fallSecs s c k n).getD i [] = s.getD i [] ∨ ∃ j, j < n ∧ (c.getD j z50).f0 = (i : Int) ∧ (c.getD j z50).f1 = (fallSecs s c k n).getD i []
 | 0, _ => .inl rfl
 | n + 1, hn => by
  have ih := fall_prop k h i hi n (by omega)
  have h0 := (okD_at h n (by omega)).1
  unfold fallSecs
  split
  ·rw [getD_set _ _ _ _ (by rw [fallSecs_length]; exact hi)]
   by_cases ht : (c.getD n z50).f0.toNat = i
   ·rw [if_pos ht]
    exact .inr ⟨n, by omega, by omega, rfl⟩
   ·rw [if_neg ht]
    rcases ih with ih | ⟨j, hj, h1, h2⟩
    ·exact .inl ih
    ·exact .inr ⟨j, by omega, h1, h2⟩
  ·rcases ih with ih | ⟨j, hj, h1, h2⟩
   ·exact .inl ih
   ·exact .inr ⟨j, by omega, h1, h2⟩
theorem bitB_zero (i : Nat) : bitB 0 i = false := by
 unfold bitB
 have : shr .i64 0 (i : Int) = 0 := by simp [shr]
 rw [this, decide_eq_false (show ¬ Go.bits .and .i64 0 1 = 1 by decide), Bool.and_false]
theorem fallSecs_zero (s : List (List Int)) (c : List S50) : ∀ i, fallSecs s c 0 i = s
 | 0 => rfl
 | i + 1 => by
  show (if bitB 0 i = true then _ else fallSecs s c 0 i) = _
  rw [bitB_zero, if_neg (by decide)]
  exact fallSecs_zero s c i
theorem bulk_small : ∀ (s : List (List Int)), (∀ x ∈ s, x.length ≤ 4) → bulkByteSS s ≤ 5 * s.length
 | [], _ => by simp [bulkByteSS]
 | x :: xs, h => by
  have h1 := h x (by simp)
  have h2 := bulk_small xs (fun y hy => h y (by simp [hy]))
  simp only [bulkByteSS, List.length_cons]
  omega
theorem bulkW_small : ∀ (c : List S50), (∀ x ∈ c, x.f1.length ≤ 4) → bulkWrS c ≤ 5 * c.length
 | [], _ => by simp [bulkWrS]
 | x :: xs, h => by
  have h1 := h x (by simp)
  have h2 := bulkW_small xs (fun y hy => h y (by simp [hy]))
  simp only [bulkWrS, List.length_cons]
  omega
theorem okD_dev {s : List (List Int)} {c : List S50} (h : okD 8 s c) : devOkB s c (-1) = true := by
 have h1 := h.1
 have h2 := h.2.2.1
 unfold devOkB
 simp only [Bool.and_eq_true, decide_eq_true_eq]
 refine ⟨allFrom_iff.2 fun i _ hi => ?_, allFrom_iff.2 fun i _ hi => ?_, by omega, by omega, by omega⟩
 ·have := h.2.1 _ (getD_mem s i [] hi)
  simp only [decide_eq_true_eq]
  omega
 ·have := okD_at h i hi
  unfold wrOkB
  simp only [Bool.and_eq_true, decide_eq_true_eq]
  omega
theorem okD_fall {s : List (List Int)} {c : List S50} (k : Int) (h : okD 8 s c) : okD 8 (fallSecs s c k c.length) [] := ⟨by rw [fallSecs_length]; exact h.1, fallSecs_small k h _ (Nat.le_refl _), by simp, fun x hx => by cases hx⟩
theorem okD_bulk {s : List (List Int)} {c : List S50} (h : okD 8 s c) : okByteSS s ∧ okWrS c := by
 have h1 := bulk_small s h.2.1
 have h2 := bulkW_small c (fun x hx => (h.2.2.2 x hx).2)
 have h3 := h.1
 have h4 := h.2.2.1
 unfold okByteSS okWrS
 omega
theorem FallDev_f {s : List (List Int)} {c : List S50} (k : Int) (h : okD 8 s c) : impl_FallDev.f s c (-1) false k = some (fallSecs s c (keepOf k) c.length, [], -1, false) := by
 have hb := okD_bulk h
 unfold impl_FallDev.f impl_FallDevS.f okDevB
 unfold okByteSS okWrS at hb
 rw [if_pos (by simp [hb.1, hb.2])]
 unfold fallDev
 rw [if_pos (okD_dev h)]
theorem falls_l1 {s : List (List Int)} {c : List S50} {x : List (List Int)} (hs : s.length ≤ 7) (hc : c.length ≤ 8) (hx : x.length = s.length) (i : Nat) (hi : i < s.length) (R : Bool) (hR : Ev (fun k => laws_FnFalls.l0 k ((i + 1 : Nat) : Int) s c (-1) false x [] (-1) false s [] (-1) false) R) :
  ∀ (d k0 : Nat) (may : Bool), c.length - k0 = d → k0 ≤ c.length → (may = true ∨ ∃ j, k0 ≤ j ∧ j < c.length ∧ (c.getD j z50).f0 = (i : Int) ∧ (c.getD j z50).f1 = x.getD i []) → Ev (fun k => laws_FnFalls.l1 k (i : Int) may (k0 : Int) s c (-1) false x [] (-1) false s [] (-1) false) R
 | 0, k0, may, hd, hk, hm => by
  obtain rfl : k0 = c.length := by omega
  have hm : may = true := hm.elim id (fun ⟨j, h1, h2, _⟩ => by omega)
  subst hm
  obtain ⟨K, hK⟩ := hR
  refine evSucc ⟨K, 1, fun k hk => ?_⟩
  have a := hK k hk
  simp only at a
  simp only [laws_FnFalls.l1]
  rw [if_neg (by omega), if_pos (by trivial), if_pos (by omega), if_pos (by omega), if_pos (by omega), if_pos (by trivial), w64s i (by omega)]
  exact a
 | d + 1, k0, may, hd, hk, hm => by
  have hr : rd_T50 c (k0 : Int) = c.getD k0 z50 := by simp [rd_T50]
  have hrx : rd_L1 x (i : Int) = x.getD i [] := by simp [rd_L1]
  cases may with
  | true =>
   obtain ⟨K, hK⟩ := falls_l1 hs hc hx i hi R hR d (k0 + 1) true (by omega) (by omega) (.inl rfl)
   refine evSucc ⟨K, 1, fun k hk => ?_⟩
   have a := hK k hk
   simp only at a
   simp only [laws_FnFalls.l1]
   rw [if_pos (by omega), if_pos (by trivial), w64s k0 (by omega)]
   exact a
  | false =>
   obtain ⟨j, h1, h2, h3, h4⟩ := hm.elim (fun h => by cases h) id
   by_cases hf : (c.getD k0 z50).f0 = (i : Int)
   ·obtain ⟨K, hK⟩ := falls_l1 hs hc hx i hi R hR d (k0 + 1) ((strOfNums ((c.getD k0 z50).f1)).toList == (strOfNums (x.getD i [])).toList) (by omega) (by omega) (by
     by_cases hj : j = k0
     ·left; rw [← hj, h4]; exact beq_self_eq_true _
     ·exact .inr ⟨j, by omega, h2, h3, h4⟩)
    refine evSucc ⟨K, 1, fun k hk => ?_⟩
    have a := hK k hk
    simp only at a
    simp only [laws_FnFalls.l1, hr, hrx]
    rw [if_pos (by omega), if_neg (by decide), if_pos (by omega), if_pos hf, if_pos (by omega), if_pos (by omega), w64s k0 (by omega)]
    exact a
   ·obtain ⟨K, hK⟩ := falls_l1 hs hc hx i hi R hR d (k0 + 1) false (by omega) (by omega) (.inr ⟨j, by
     rcases Nat.lt_or_ge k0 j with q | q
     ·omega
     ·exact absurd (show (c.getD k0 z50).f0 = (i : Int) by rw [show k0 = j by omega]; exact h3) hf, h2, h3, h4⟩)
    refine evSucc ⟨K, 1, fun k hk => ?_⟩
    have a := hK k hk
    simp only at a
    simp only [laws_FnFalls.l1, hr]
    rw [if_pos (by omega), if_neg (by decide), if_pos (by omega), if_neg hf, w64s k0 (by omega)]
    exact a
theorem falls_l0 {s : List (List Int)} {c : List S50} (q : Int) (h : okD 8 s c) : ∀ (d i : Nat), s.length - i = d → i ≤ s.length → Ev (fun k => laws_FnFalls.l0 k (i : Int) s c (-1) false (fallSecs s c q c.length) [] (-1) false s [] (-1) false) true
 | 0, i, hd, hi => by
  obtain rfl : i = s.length := by omega
  have hf := okD_fall q h
  have hb := okD_bulk hf
  obtain ⟨K, hK⟩ := impl_DevOk_ev (fallSecs s c q c.length) [] (-1) false hb.1 hb.2
  refine evSucc ⟨K, 1, fun k hk => ?_⟩
  have a := hK k hk
  rw [okD_dev hf] at a
  simp only at a
  simp only [laws_FnFalls.l0]
  rw [if_neg (by omega), a]
  rfl
 | d + 1, i, hd, hi => by
  have hs := h.1
  have hx := fallSecs_length s c q c.length
  have ih := falls_l0 q h d (i + 1) (by omega) (by omega)
  have hr1 : rd_L1 (fallSecs s c q c.length) (i : Int) = (fallSecs s c q c.length).getD i [] := by simp [rd_L1]
  have hr2 : rd_L1 s (i : Int) = s.getD i [] := by simp [rd_L1]
  obtain ⟨K, hK⟩ := falls_l1 (x := fallSecs s c q c.length) (by omega) h.2.2.1 hx i (by omega) true ih c.length 0 ((strOfNums ((fallSecs s c q c.length).getD i [])).toList == (strOfNums (s.getD i [])).toList) (by omega) (by omega) (by
   rcases fall_prop q h i (by omega) c.length (Nat.le_refl _) with e | ⟨j, hj, h1, h2⟩
   ·left; rw [e]; exact beq_self_eq_true _
   ·exact .inr ⟨j, Nat.zero_le _, hj, h1, h2⟩)
  refine evSucc ⟨K, 1, fun k hk => ?_⟩
  have a := hK k hk
  simp only at a
  simp only [laws_FnFalls.l0, hr1, hr2]
  rw [if_pos (by omega), if_pos (by omega), if_pos (by omega)]
  exact a
theorem FnFalls (l0 : List Int) (h0 : l0.length ≤ 9223372036854775807 ∧ ∀ x ∈ l0, (Lit.int .u8 x).wf = true) : ∃ k, laws_FnFalls.f k l0 = some true := by
 have hb := h0.2
 by_cases hbig : (l0.length : Int) > 1048576
 ·refine ⟨0, ?_⟩
  simp only [laws_FnFalls.f, laws_big.f, Option.bind_some]
  rw [decide_eq_true hbig]
  rfl
 ·have hB : bytesIn l0 := fun x hx => wf_u8 (hb x hx)
  have hl : l0.length ≤ 1048576 := by omega
  obtain ⟨s, c, hok, K0, e0⟩ := DrawDev_ex l0 hB hl
  obtain ⟨x, e1, _⟩ := at_ex l0 2 hB hl (by omega) (by omega)
  obtain ⟨y, e2, _⟩ := at_ex l0 3 hB hl (by omega) (by omega)
  obtain ⟨K1, h1⟩ := falls_l0 (keepOf (wrap64 ((wrap64 (x * 256)) + y))) hok s.length 0 (by omega) (by omega)
  refine ⟨K0 + K1, ?_⟩
  have a0 := e0 (K0 + K1) (by omega)
  have a1 := h1 (K0 + K1) (by omega)
  have hz : fallSecs s c (keepOf 0) c.length = s := by rw [show keepOf 0 = 0 from rfl]; exact fallSecs_zero s c _
  simp only at a0 a1
  simp only [laws_FnFalls.f, laws_big.f, Option.bind_some, a0, e1, e2, FallDev_f _ hok, hz]
  rw [decide_eq_false (by omega), if_neg (by decide)]
  exact a1
end Go.Proofs.Ytilhcaofpfeioaa.Pure

namespace Go.Proofs.Ytilhcaofpfeioaa.Op
open Go.RowKit Go.ChangeShapes Go.WideShapes Go.Proofs.YtilhcaofpfeioaaW.PrintWords
def Opens {α : Type} (P : Program) (t : TypeId) (d : Kd α) (g : α → Prop) : Prop :=
 ∀ {H : Type} {enc : TypeId × Value → H} {w : World} {base : Nat} {spare : Nat → Bool} {held : Bool} {fuel : Nat} {cs : List Value} {x : DataW H × List MemPlace},
  DataW.trod enc P w base spare held fuel t cs = some x → ∃ a, d.K w a cs ∧ g a
theorem opens_int {P : Program} {t : TypeId} {k : IntKind} (ht : P.underlying t = some (.int k)) : Opens P t (Kd.int k) (fun n => (Lit.int k n).wf = true) := by
 intro H enc w base spare held fuel cs x h
 obtain ⟨n, rfl, _, hw⟩ := DataW.trod_int ht h
 exact ⟨n, rfl, hw⟩
theorem opens_slice {α : Type} {P : Program} {t e : TypeId} {d : Kd α} {g : α → Prop} (q : Nat) (ht : P.underlying t = some (.slice e)) (hd : Opens P e d g) (hc : P.cellsOf e = d.sz) :
  Opens P t (Kd.slice q d) (fun xs => xs.length ≤ 9223372036854775807 ∧ ∀ x ∈ xs, g x) := by
 intro H enc w base spare held fuel cs x h
 rcases DataW.trod_slice ht h with ⟨rfl, _⟩ | ⟨a, len, cap, elems, rest, n, _, rfl, _, _, hl, hm, hlen, hel, _, _⟩
 ·exact ⟨[], ⟨none, 0, rfl, Nat.le_refl _, rfl, Nat.zero_le _, fun h => by cases h⟩, by simp, by simp⟩
 ·have each : ∀ i : Fin len, ∃ y : α, g y ∧ ∃ c : List Value, c.length = d.sz ∧ d.K w y c ∧ ∀ j u, c[j]? = some u → w.cell? (a.add (i.val * d.sz + j)) = some u := by
   intro i
   have h1 := hel i.val i.isLt
   rw [List.getElem?_eq_getElem (by omega), Option.bind_eq_some_iff] at h1
   obtain ⟨c, hcs, hy⟩ := h1
   obtain ⟨_, hcl, hcell⟩ := World.cells?_some hcs
   obtain ⟨y, hK, hg⟩ := hd hy
   refine ⟨y, hg, c, by rw [hcl, hc], hK, fun j u hu => ?_⟩
   have hj : j < c.length := (List.getElem?_eq_some_iff.1 hu).1
   have h2 := hcell j (by omega)
   rw [hu] at h2
   rw [← h2, hc]
   congr 1
   exact (Addr.add_add a _ _).symm
  obtain ⟨f, hf⟩ := Classical.axiomOfChoice each
  refine ⟨List.ofFn f, ⟨some a, cap, by rw [List.length_ofFn], by rw [List.length_ofFn]; exact hl, by rw [List.length_ofFn], by rw [List.length_ofFn]; unfold maxLen at hm; omega, fun _ => ⟨a, rfl, fun j p hp => ?_⟩⟩, by rw [List.length_ofFn]; unfold maxLen at hm; omega, fun x hx => ?_⟩
  ·rw [List.getElem?_ofFn] at hp
   split at hp
   ·rename_i hj
    obtain rfl := Option.some.inj hp
    obtain ⟨_, c, h1, h2, h3⟩ := hf ⟨j, hj⟩
    exact ⟨c, h1, h2, h3⟩
   ·cases hp
  ·obtain ⟨i, rfl⟩ := List.mem_ofFn.1 hx
   exact (hf i).1
/-- The fields from one offset on. -/
def OpensL {α : Type} (P : Program) (fs : List Field) (off : Nat) (d : Kd α) (g : α → Prop) : Prop :=
 ∀ {H : Type} {enc : TypeId × Value → H} {w : World} {base : Nat} {spare : Nat → Bool} {held : Bool} {fuel : Nat} {cs : List Value},
  (∀ f ∈ fs, ∃ x, DataW.trod enc P w base spare held fuel f.type ((cs.drop f.offset).take (P.cellsOf f.type)) = some x) → ∃ a, d.K w a ((cs.drop off).take d.sz) ∧ g a
end Go.Proofs.Ytilhcaofpfeioaa.Op

namespace Go.Proofs.Ytilhcaofpfeioaa.rowFnFalls
open Go.ChangeShapes Go.WideShapes Go.ChangeAt Go.RowKit
open Go.ChangeMaps (open_string shut_string)
open Go.Proofs.YtilhcaofpfeioaaW.PrintWords Go.Proofs.Ytilhcaofpfeioaa.Op Go.Proofs.Ytilhcaofpfeioaa.PFnFalls
set_option linter.unusedVariables false
set_option linter.unusedSimpArgs false
theorem own : ownKnob Try.prog.godebug = none := by kernel_rfl
theorem laidOut : laidOutB Try.prog = true := by kernel_rfl
set_option maxRecDepth 100000 in
theorem lifted (os : Os) (started : os.Started) (H : Type) (enc : TypeId × Value → H) :
  ReturnsInHanded {} Try.checked os 10 .any (Rows.fnFallsSpec.pre6 enc Try.prog Try.f10 Rows.fnFallsRow.domain false) (Rows.fnFallsSpec.post enc Try.prog Try.f10 false true false false) := by
 refine returnsInHanded_of_change_sized (C := Try.checked) own started (by kernel_rfl) Try.func10
  (ChangeSpec.witness6 (enc := enc) (C := Try.checked) false ⟨#[], #[.slice none 0 0], []⟩ 8 (by kernel_rfl) (by kernel_rfl) (by kernel_rfl) (by kernel_rfl)) ?_
 intro W base args ds gs before hval0 hW hcnd hsz0 _
 have hval : ∀ (j : Nat) t v, Try.f10.params[j]? = some t → args[j]? = some v → Value.okWide Try.prog W .any base t v := hval0
 have hW' := hW
 obtain ⟨p, q, hA0, hV, rfl, hfz, hnd⟩ := hW
 have hA : DataW.TrodAll enc Try.prog W 0 (fun _ => true) true Try.f10.params.toList args.toList ds p := hA0
 rw [Try.params10] at hA hval
 obtain ⟨v0, vs0, d0, ds0, p0, q0, hargs, rfl, rfl, h0, r0⟩ := trodAll_cons hA
 obtain ⟨rfl, rfl, rfl⟩ := trodAll_nil r0
 obtain rfl : args = #[v0] := by cases args; simp_all
 obtain ⟨rfl, rfl⟩ := trodVars_none hV
 have k0 := h0
 have lt0 : ∀ x ∈ p0, x.block < W.heap.size := by obtain ⟨m, hm⟩ := k0; exact DataW.trod_lt m _ _ _ hm
 obtain ⟨fuel0, hf0⟩ := h0
 obtain ⟨b0, len0, cap0, rfl⟩ := okWide_slice Try.underlying37 (hval 0 37 v0 rfl rfl)
 obtain ⟨l0, ⟨A0, c0, e0, hc0, hC0⟩, g0⟩ := (opens_slice 5 Try.underlying37 (opens_int Try.underlying5) (by kernel_rfl)) hf0
 simp only [Value.cells, List.cons.injEq, Value.slice.injEq, and_true] at e0
 obtain ⟨rfl, rfl, rfl⟩ := e0
 clear hA0 hval0 hsz0
 obtain ⟨k, hk⟩ := Pure.FnFalls l0 g0
 refine (laws_FnFalls.calls k _ _ _ true W hC0 hc0 hk).mono fun e W' ⟨he, bel0⟩ => ?_
 have bel : Below W.heap.size W W' := by first | exact bel0 | exact bel0.below
 subst he
 exact ⟨_, rfl, _, _, _, [], _, [], hW', trodAll_mk1 (shut_bool Try.underlying4 _), (trodAll_cons_mk (Below.trod laidOut (by kernel_rfl) (lE (by kernel_rfl)) k0 bel lt0) trodAll_mk0), rfl, bel.frame _, fun h => by cases h⟩
theorem over : Rows.fnFallsRow.holds Try.pinned (OpenSpec.ofChange Rows.fnFallsSpec) :=
 OpenClaim.holds_of_wide 10 Try.f10 rfl rfl rfl rfl rfl rfl rfl ⟨rfl, rfl, rfl, rfl, rfl⟩ rfl rfl rfl rfl rfl (by kernel_rfl) Try.func10 (by kernel_rfl)
  (lE (by kernel_rfl)) (by unfold Func.isWrapper; first | (rw [if_pos (by decide +kernel)]; kernel_rfl) | (rw [if_neg (by decide +kernel)]; exact ⟨rfl, rfl⟩))
  (fun os started H enc _ => lifted os started H enc)
theorem proved : Rows.FnFallsSaid := over
#print axioms proved
end Go.Proofs.Ytilhcaofpfeioaa.rowFnFalls
namespace Go.Proofs.Ytilhcaofpfeioaa
theorem fnFalls_holds : Rows.FnFallsSaid := rowFnFalls.proved
end Go.Proofs.Ytilhcaofpfeioaa
