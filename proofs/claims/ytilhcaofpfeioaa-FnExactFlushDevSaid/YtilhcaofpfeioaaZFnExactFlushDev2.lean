/- The law: the functions that it reaches, each with the proof that the machine's call comes to its answer, what they answer, and the law's row; each theorem says its conditions itself. -/
import Derived.Test.YtilhcaofpfeioaaZFnExactFlushDev1
namespace Go.Proofs.Ytilhcaofpfeioaa.Law
open Go.RowKit Go.Proofs.Ytilhcaofpfeioaa.PFnExactFlushDev Go.Proofs.Ytilhcaofpfeioaa.Core Go.Proofs.YtilhcaofpfeioaaW.PrintWords Go.Proofs.YtilhcaofpfeioaaW.PrintLast Go.Proofs.YtilhcaofpfeioaaW.PrintMore Go.Proofs.Ytilhcaofpfeioaa.Pure
set_option linter.unusedSimpArgs false
set_option linter.unusedVariables false
def Ex (a x y k : Nat) : Prop := a ≤ k ∧ k ≠ x ∧ k ≠ y
def Exb (a x y t k : Nat) : Prop := Ex a x y k ∧ k < t
theorem ex_of {u : Value} {x k : Nat} (h4 : u.ownBlock = none → x = 0) (hC : ∀ k, u.ownBlock = some k → k = x) (h : some k ≠ u.ownBlock) (hg : 0 < k) : k ≠ x := by
 intro e
 subst e
 cases hu : u.ownBlock with
 | none => have := h4 hu; omega
 | some b => exact h (by rw [hu, hC b hu])
theorem own_num (u : Value) (n : Nat) (hn : 0 < n) (h : ∀ k, u.ownBlock = some k → k < n) : ∃ x, x < n ∧ (∀ k, u.ownBlock = some k → k = x) ∧ (u.ownBlock = none → x = 0) := by
 cases e : u.ownBlock with
 | none => exact ⟨0, hn, fun k hk => (by cases hk), fun _ => rfl⟩
 | some b => exact ⟨b, h b e, fun k hk => (by injection hk with hk; exact hk.symm), fun h => (by cases h)⟩
def In2 (a b c d k : Nat) : Prop := In a b k ∨ In c d k
def Up (a b c k : Nat) : Prop := In a b k ∨ c ≤ k
theorem kept_grown {W w1 : World} {row : Option Nat} {S : Nat → Prop} (hg : W.grownBy w1 row) (h : ∀ k, row = some k → S k) : Kept W w1 S := ⟨hg.size, fun k hlt hn => hg.block k hlt (fun he => hn (h k he.symm))⟩
def rdR (xs : List (List Int)) (i : Int) : List Int := xs.getD i.toNat []
def rdW (xs : List (S50)) (i : Int) : S50 := xs.getD i.toNat z50
theorem F_row {e n : Nat} {W : World} {ok : Nat → Prop} {A : Option Addr} {xs : List (List Int)} (h : Kd.F (Kd.slice e (Kd.int .u8)) W ok A n xs) (i : Int) (h0 : 0 ≤ i) (h1 : i < n) :
  ∃ ad A' c', A = some ad ∧ W.cell? (ad.add i.toNat) = some (.slice A' (rdR xs i).length c') ∧ (rdR xs i).length ≤ c' ∧ Kd.F (Kd.int .u8) W ok A' (rdR xs i).length (rdR xs i) := by
 obtain ⟨ad, c, e_, _, hK, hcc, _⟩ := Kd.F_get h [] i h0 h1
 obtain ⟨A', c', rfl, hl, hf⟩ := Kd.FK_slice_open hK
 exact ⟨ad, A', c', e_, by have := hcc 0 _ rfl; rwa [show (Kd.slice e (Kd.int .u8)).sz = 1 from rfl, Nat.mul_one, Nat.add_zero] at this, hl, hf⟩
theorem F_wr {n : Nat} {W : World} {ok : Nat → Prop} {A : Option Addr} {xs : List (S50)} (h : Kd.F k50 W ok A n xs) (i : Int) (h0 : 0 ≤ i) (h1 : i < n) :
  ∃ ad A' c', A = some ad ∧ W.cell? (ad.add (i.toNat * 2)) = some (.int .i64 (rdW xs i).f0) ∧ W.cell? ⟨(ad.add (i.toNat * 2)).block, (ad.add (i.toNat * 2)).off + 1, none⟩ = some (.slice A' (rdW xs i).f1.length c') ∧ (rdW xs i).f1.length ≤ c' ∧ Kd.F (Kd.int .u8) W ok A' (rdW xs i).f1.length (rdW xs i).f1 := by
 obtain ⟨ad, c, e_, _, hK, hcc0, _⟩ := Kd.F_get h z50 i h0 h1
 have hcc : ∀ j u, c[j]? = some u → W.cell? (ad.add (i.toNat * 2 + j)) = some u := hcc0
 obtain ⟨A', c', rfl, hl, hf⟩ := k50_openF hK
 exact ⟨ad, A', c', e_, hcc 0 _ rfl, by rw [← add_field _ _ 1 (by omega)]; exact hcc 1 _ rfl, hl, hf⟩
theorem joined1 (E : List Int) (h : E.length ≤ 4194304) : ∃ k, impl_joined.f k ([E] : List (List Int)) = some E := evGet (by have := impl_joined_ev [E] (by simpa using h) (by simp); simpa using this)
theorem getS_len {s : List (List Int)} (h : okByteSS s) (i : Nat) : (s.getD i []).length ≤ 4194304 := by
 by_cases c : i < s.length
 ·exact okByteSS_at h i c
 ·rw [List.getD_eq_getElem?_getD, List.getElem?_eq_none (by omega)]; simp
theorem getW_len {s : List (S50)} (h : okWrS s) (i : Nat) : (s.getD i z50).f1.length ≤ 4194304 := by
 by_cases c : i < s.length
 ·exact okWrS_at h i c
 ·rw [List.getD_eq_getElem?_getD, List.getElem?_eq_none (by omega)]; simp [z50]
def okDevB (l : List (List Int)) (m : List (S50)) : Bool := decide (bulkByteSS l ≤ 4194304) && decide (bulkWrS m ≤ 4194304)
theorem new_SI2 {α : Type} {d : Kd α} {e base lo hi : Nat} {w1 : World} {v : Value} {xs : List α} (h : Kd.S d e w1 base (In lo hi) v xs) : ∃ A c, v = .slice A xs.length c ∧ xs.length ≤ c ∧ Kd.F d w1 (In lo hi) A xs.length xs ∧ Kd.S d e w1 base (In lo hi) (.slice A xs.length c) xs := by
 obtain ⟨A, c, rfl, hl, _⟩ := Kd.S_reads h
 exact ⟨A, c, rfl, hl, Kd.S_F h, h⟩
theorem devOk_at {s : List (List Int)} {c : List S50} {f x : Int} {i : Nat} (h : devOkB s c f = true) (hx : x = (i : Int)) (hi : i < c.length) : 0 ≤ (rdW c x).f0 ∧ (rdW c x).f0 < (s.length : Int) := by
 subst hx
 unfold devOkB at h
 simp only [Bool.and_eq_true] at h
 have h2 := allFrom_iff.1 h.2.1 i (Nat.zero_le i) hi
 unfold wrOkB at h2
 simp only [Bool.and_eq_true, decide_eq_true_eq] at h2
 unfold rdW
 rw [Int.toNat_natCast]
 omega
set_option maxHeartbeats 8000000 in
set_option maxRecDepth 100000 in
theorem walk_copyDev (A0_0 : Option Addr) (c0_0 : Nat) (l0_0 : List (List (Int))) (A0_1 : Option Addr) (c0_1 : Nat) (l0_1 : List (S50)) (a0_2 : Int) (a0_3 : Bool) (w : World) (hf0_0 : Kd.F (Kd.slice 5 (Kd.int .u8)) w (In 0 w.heap.size) A0_0 l0_0.length l0_0) (hc0_0 : l0_0.length ≤ c0_0) (hf0_1 : Kd.F k50 w (In 0 w.heap.size) A0_1 l0_1.length l0_1) (hc0_1 : l0_1.length ≤ c0_1) (hok0 : okByteSS l0_0) (hok1 : okWrS l0_1) :
  Calls Try.prog 58 #[.agg #[.slice A0_0 l0_0.length c0_0, .slice A0_1 l0_1.length c0_1, .int .i64 a0_2, .bool a0_3]] w fun e w' => ∃ v0_ v1_ : Value, ∃ m_ : Nat, e = .returned (.agg #[v0_, v1_, .int .i64 a0_2, .bool a0_3]) ∧ w.heap.size ≤ m_ ∧ m_ ≤ w'.heap.size ∧ Kd.S (Kd.slice 5 (Kd.int .u8)) 37 w' w.heap.size (In w.heap.size m_) v0_ l0_0 ∧ Kd.S k50 50 w' w.heap.size (In m_ w'.heap.size) v1_ l0_1 ∧ Below w.heap.size w w' := by
 have hu25 := Try.underlying25
 have hu50 := Try.underlying50
 have HF0_0 := aC.mk hf0_0
 have HC0_0 := aC.mk hc0_0
 clear hf0_0 hc0_0
 have HF0_1 := aC.mk hf0_1
 have HC0_1 := aC.mk hc0_1
 clear hf0_1 hc0_1
 have HB := aC.mk (Below.refl w.heap.size w)
 have HORD := aC.mk (Nat.le_refl w.heap.size)
 have HT := aC.mk (Nat.le_refl w.heap.size)
 go_enter Try.func58, Try.ntmps58
 go_wp2_with (first | ((with_reducible refine bC (N := 1) rfl ?_); refine bB ?hg (N := 1) ?hd (cs := #[.slice A0_0 l0_0.length c0_0, .slice A0_1 l0_1.length c0_1, .int .i64 a0_2, .bool a0_3]) (t := 25) ?hr ?_; (case hd => rfl); (case hg => rfl); (case hr => first | (go_simp; done) | (go_simp; rfl)); intro gb1 hg_ w1 hbox hb; have hge_ : w.heap.size ≤ gb1 := (by rw [hg_]; exact HT.out); have hlt_ : gb1 + 1 ≤ w1.heap.size := bG hbox; have n0_ := aC.mk (Kd.aU HF0_0.out hb); have n1_ := aC.mk (Kd.aU HF0_1.out hb); have n2_ := aC.mk (aV HB.out hb); have n3_ := aC.mk (hbox); have n4_ := aC.mk (And.intro HORD.out (And.intro hge_ (Nat.le_succ gb1))); have n5_ := aC.mk (hlt_); (try clear HF0_0); (try clear HF0_1); (try clear HB); (try clear BK1); (try clear HORD); (try clear HT); have HF0_0 := n0_; have HF0_1 := n1_; have HB := n2_; have BK1 := n3_; have HORD := n4_; have HT := n5_; clear n0_ n1_ n2_ n3_ n4_ n5_; clear hb hbox hg_ hge_ hlt_; have hzgb1_0_1 : w1.cell? ⟨gb1, 0, none⟩ = some (.slice A0_0 l0_0.length c0_0) := (aD BK1.out 0).trans rfl; have hygb1_0_1 := aA BK1.out 0; have hzgb1_1_1 : w1.cell? ⟨gb1, 1, none⟩ = some (.slice A0_1 l0_1.length c0_1) := (aD BK1.out 1).trans rfl; have hygb1_1_1 := aA BK1.out 1; have hzgb1_2_1 : w1.cell? ⟨gb1, 2, none⟩ = some (.int .i64 a0_2) := (aD BK1.out 2).trans rfl; have hygb1_2_1 := aA BK1.out 2; have hzgb1_3_1 : w1.cell? ⟨gb1, 3, none⟩ = some (.bool a0_3) := (aD BK1.out 3).trans rfl; have hygb1_3_1 := aA BK1.out 3) | ((with_reducible refine bC (N := 2) rfl ?_); refine bB ?hg (N := 2) ?hd (cs := #[.slice none 0 0, .slice none 0 0, .int .i64 0, .bool false]) (t := 25) ?hr ?_; (case hd => rfl); (case hg => rfl); (case hr => first | (go_simp; done) | (go_simp; rfl)); intro gb2 hg_ w2 hbox hb; have hge_ : (gb1 + 1) ≤ gb2 := (by rw [hg_]; exact HT.out); have hlt_ : gb2 + 1 ≤ w2.heap.size := bG hbox; have n0_ := aC.mk (Kd.aU HF0_0.out hb); have n1_ := aC.mk (Kd.aU HF0_1.out hb); have n2_ := aC.mk (aM BK1.out hb); have n3_ := aC.mk (aV HB.out hb); have n4_ := aC.mk (hbox); have n5_ := aC.mk (And.intro HORD.out (And.intro hge_ (Nat.le_succ gb2))); have n6_ := aC.mk (hlt_); (try clear HF0_0); (try clear HF0_1); (try clear BK1); (try clear HB); (try clear BK2); (try clear HORD); (try clear HT); have HF0_0 := n0_; have HF0_1 := n1_; have BK1 := n2_; have HB := n3_; have BK2 := n4_; have HORD := n5_; have HT := n6_; clear n0_ n1_ n2_ n3_ n4_ n5_ n6_; clear hb hbox hg_ hge_ hlt_; have hzgb1_0_2 : w2.cell? ⟨gb1, 0, none⟩ = some (.slice A0_0 l0_0.length c0_0) := (aD BK1.out 0).trans rfl; have hygb1_0_2 := aA BK1.out 0; have hzgb1_1_2 : w2.cell? ⟨gb1, 1, none⟩ = some (.slice A0_1 l0_1.length c0_1) := (aD BK1.out 1).trans rfl; have hygb1_1_2 := aA BK1.out 1; have hzgb1_2_2 : w2.cell? ⟨gb1, 2, none⟩ = some (.int .i64 a0_2) := (aD BK1.out 2).trans rfl; have hygb1_2_2 := aA BK1.out 2; have hzgb1_3_2 : w2.cell? ⟨gb1, 3, none⟩ = some (.bool a0_3) := (aD BK1.out 3).trans rfl; have hygb1_3_2 := aA BK1.out 3; have hzgb2_0_2 : w2.cell? ⟨gb2, 0, none⟩ = some (.slice none 0 0) := (aD BK2.out 0).trans rfl; have hygb2_0_2 := aA BK2.out 0; have hzgb2_1_2 : w2.cell? ⟨gb2, 1, none⟩ = some (.slice none 0 0) := (aD BK2.out 1).trans rfl; have hygb2_1_2 := aA BK2.out 1; have hzgb2_2_2 : w2.cell? ⟨gb2, 2, none⟩ = some (.int .i64 0) := (aD BK2.out 2).trans rfl; have hygb2_2_2 := aA BK2.out 2; have hzgb2_3_2 : w2.cell? ⟨gb2, 3, none⟩ = some (.bool false) := (aD BK2.out 3).trans rfl; have hygb2_3_2 := aA BK2.out 3) | ((with_reducible refine bC (N := 3) rfl ?_); refine bB ?hg (N := 3) ?hd (cs := #[.slice none 0 0, .slice none 0 0, .int .i64 0, .bool false]) (t := 25) ?hr ?_; (case hd => rfl); (case hg => rfl); (case hr => first | (go_simp; done) | (go_simp; rfl)); intro gb3 hg_ w3 hbox hb; have hge_ : (gb2 + 1) ≤ gb3 := (by rw [hg_]; exact HT.out); have hlt_ : gb3 + 1 ≤ w3.heap.size := bG hbox; have n0_ := aC.mk (Kd.aU HF0_0.out hb); have n1_ := aC.mk (Kd.aU HF0_1.out hb); have n2_ := aC.mk (aM BK1.out hb); have n3_ := aC.mk (aM BK2.out hb); have n4_ := aC.mk (aV HB.out hb); have n5_ := aC.mk (hbox); have n6_ := aC.mk (And.intro HORD.out (And.intro hge_ (Nat.le_succ gb3))); have n7_ := aC.mk (hlt_); (try clear HF0_0); (try clear HF0_1); (try clear BK1); (try clear BK2); (try clear HB); (try clear BK3); (try clear HORD); (try clear HT); have HF0_0 := n0_; have HF0_1 := n1_; have BK1 := n2_; have BK2 := n3_; have HB := n4_; have BK3 := n5_; have HORD := n6_; have HT := n7_; clear n0_ n1_ n2_ n3_ n4_ n5_ n6_ n7_; clear hb hbox hg_ hge_ hlt_; have hzgb1_0_3 : w3.cell? ⟨gb1, 0, none⟩ = some (.slice A0_0 l0_0.length c0_0) := (aD BK1.out 0).trans rfl; have hygb1_0_3 := aA BK1.out 0; have hzgb1_1_3 : w3.cell? ⟨gb1, 1, none⟩ = some (.slice A0_1 l0_1.length c0_1) := (aD BK1.out 1).trans rfl; have hygb1_1_3 := aA BK1.out 1; have hzgb1_2_3 : w3.cell? ⟨gb1, 2, none⟩ = some (.int .i64 a0_2) := (aD BK1.out 2).trans rfl; have hygb1_2_3 := aA BK1.out 2; have hzgb1_3_3 : w3.cell? ⟨gb1, 3, none⟩ = some (.bool a0_3) := (aD BK1.out 3).trans rfl; have hygb1_3_3 := aA BK1.out 3; have hzgb2_0_3 : w3.cell? ⟨gb2, 0, none⟩ = some (.slice none 0 0) := (aD BK2.out 0).trans rfl; have hygb2_0_3 := aA BK2.out 0; have hzgb2_1_3 : w3.cell? ⟨gb2, 1, none⟩ = some (.slice none 0 0) := (aD BK2.out 1).trans rfl; have hygb2_1_3 := aA BK2.out 1; have hzgb2_2_3 : w3.cell? ⟨gb2, 2, none⟩ = some (.int .i64 0) := (aD BK2.out 2).trans rfl; have hygb2_2_3 := aA BK2.out 2; have hzgb2_3_3 : w3.cell? ⟨gb2, 3, none⟩ = some (.bool false) := (aD BK2.out 3).trans rfl; have hygb2_3_3 := aA BK2.out 3; have hzgb3_0_3 : w3.cell? ⟨gb3, 0, none⟩ = some (.slice none 0 0) := (aD BK3.out 0).trans rfl; have hygb3_0_3 := aA BK3.out 0; have hzgb3_1_3 : w3.cell? ⟨gb3, 1, none⟩ = some (.slice none 0 0) := (aD BK3.out 1).trans rfl; have hygb3_1_3 := aA BK3.out 1; have hzgb3_2_3 : w3.cell? ⟨gb3, 2, none⟩ = some (.int .i64 0) := (aD BK3.out 2).trans rfl; have hygb3_2_3 := aA BK3.out 2; have hzgb3_3_3 : w3.cell? ⟨gb3, 3, none⟩ = some (.bool false) := (aD BK3.out 3).trans rfl; have hygb3_3_3 := aA BK3.out 3) | ((with_reducible refine bP (t := 25) (p := 3) rfl ?_); refine bK (t := 25) (p := 3) (v := ?vo_w4) (w1 := ((((w3.setCell ⟨gb3, 0, none⟩ (.slice none 0 0)).setCell ⟨gb3, 1, none⟩ (.slice none 0 0)).setCell ⟨gb3, 2, none⟩ (.int .i64 a0_2)).setCell ⟨gb3, 3, none⟩ (.bool a0_3))) ?hg ?ho ?hn ?hr ?_; (case ho => rfl); (case hg => rfl); (case hn => rfl); (case hr => first | (go_simp; done) | (go_simp; rfl)); intro w4 hw_; have hkp : Kept w3 w4 (fun k_ => k_ = gb3) := (by rw [hw_]; exact Kept.setCell (Kept.setCell (Kept.setCell (Kept.setCell (Kept.refl w3 (fun k_ => k_ = gb3)) (.inl rfl) (.slice none 0 0)) (.inl rfl) (.slice none 0 0)) (.inl rfl) (.int .i64 a0_2)) (.inl rfl) (.bool a0_3)); have hge_ : w.heap.size ≤ gb3 := (by have o_ := HORD.out; (try unfold In at *); (try show _ ≠ _); omega); have hbn_ : Below w.heap.size w w4 := (by rw [hw_]; exact aG (aG (aG (aG (HB.out) hge_) hge_) hge_) hge_); have hbk_ : w4.heap[gb3]? = some (.cells #[.slice none 0 0, .slice none 0 0, .int .i64 a0_2, .bool a0_3] 25 (0, 0)) := (by rw [hw_]; exact aX (cs := #[.slice none 0 0, .slice none 0 0, .int .i64 a0_2, .bool false]) (cs' := #[.slice none 0 0, .slice none 0 0, .int .i64 a0_2, .bool a0_3]) (aX (cs := #[.slice none 0 0, .slice none 0 0, .int .i64 0, .bool false]) (cs' := #[.slice none 0 0, .slice none 0 0, .int .i64 a0_2, .bool false]) (aX (cs := #[.slice none 0 0, .slice none 0 0, .int .i64 0, .bool false]) (cs' := #[.slice none 0 0, .slice none 0 0, .int .i64 0, .bool false]) (aX (cs := #[.slice none 0 0, .slice none 0 0, .int .i64 0, .bool false]) (cs' := #[.slice none 0 0, .slice none 0 0, .int .i64 0, .bool false]) (BK3.out) 0 _ rfl) 1 _ rfl) 2 _ rfl) 3 _ rfl); have hsz_ : (gb3 + 1) ≤ w4.heap.size := Nat.le_trans HT.out hkp.1; have n0_ := aC.mk (Kd.aZ HF0_0.out hkp (fun k_ h1_ h2_ => by have o_ := HORD.out; have t_ := HT.out; (try simp only [In2, Up, In, Ex, Exb] at h1_ h2_); omega)); have n1_ := aC.mk (Kd.aZ HF0_1.out hkp (fun k_ h1_ h2_ => by have o_ := HORD.out; have t_ := HT.out; (try simp only [In2, Up, In, Ex, Exb] at h1_ h2_); omega)); have n2_ := aC.mk (bA BK1.out hkp (fun h2_ => by have o_ := HORD.out; have t_ := HT.out; (try simp only [In2, Up, In, Ex, Exb] at h2_); omega)); have n3_ := aC.mk (bA BK2.out hkp (fun h2_ => by have o_ := HORD.out; have t_ := HT.out; (try simp only [In2, Up, In, Ex, Exb] at h2_); omega)); have n4_ := aC.mk (hbn_); have n5_ := aC.mk (hbk_); have n6_ := aC.mk (hsz_); (try clear HF0_0); (try clear HF0_1); (try clear BK1); (try clear BK2); (try clear HB); (try clear BK3); (try clear HT); have HF0_0 := n0_; have HF0_1 := n1_; have BK1 := n2_; have BK2 := n3_; have HB := n4_; have BK3 := n5_; have HT := n6_; clear n0_ n1_ n2_ n3_ n4_ n5_ n6_; clear hw_ hkp hge_ hbn_ hbk_ hsz_; have hzgb1_0_4 : w4.cell? ⟨gb1, 0, none⟩ = some (.slice A0_0 l0_0.length c0_0) := (aD BK1.out 0).trans rfl; have hygb1_0_4 := aA BK1.out 0; have hzgb1_1_4 : w4.cell? ⟨gb1, 1, none⟩ = some (.slice A0_1 l0_1.length c0_1) := (aD BK1.out 1).trans rfl; have hygb1_1_4 := aA BK1.out 1; have hzgb1_2_4 : w4.cell? ⟨gb1, 2, none⟩ = some (.int .i64 a0_2) := (aD BK1.out 2).trans rfl; have hygb1_2_4 := aA BK1.out 2; have hzgb1_3_4 : w4.cell? ⟨gb1, 3, none⟩ = some (.bool a0_3) := (aD BK1.out 3).trans rfl; have hygb1_3_4 := aA BK1.out 3; have hzgb2_0_4 : w4.cell? ⟨gb2, 0, none⟩ = some (.slice none 0 0) := (aD BK2.out 0).trans rfl; have hygb2_0_4 := aA BK2.out 0; have hzgb2_1_4 : w4.cell? ⟨gb2, 1, none⟩ = some (.slice none 0 0) := (aD BK2.out 1).trans rfl; have hygb2_1_4 := aA BK2.out 1; have hzgb2_2_4 : w4.cell? ⟨gb2, 2, none⟩ = some (.int .i64 0) := (aD BK2.out 2).trans rfl; have hygb2_2_4 := aA BK2.out 2; have hzgb2_3_4 : w4.cell? ⟨gb2, 3, none⟩ = some (.bool false) := (aD BK2.out 3).trans rfl; have hygb2_3_4 := aA BK2.out 3; have hzgb3_0_4 : w4.cell? ⟨gb3, 0, none⟩ = some (.slice none 0 0) := (aD BK3.out 0).trans rfl; have hygb3_0_4 := aA BK3.out 0; have hzgb3_1_4 : w4.cell? ⟨gb3, 1, none⟩ = some (.slice none 0 0) := (aD BK3.out 1).trans rfl; have hygb3_1_4 := aA BK3.out 1; have hzgb3_2_4 : w4.cell? ⟨gb3, 2, none⟩ = some (.int .i64 a0_2) := (aD BK3.out 2).trans rfl; have hygb3_2_4 := aA BK3.out 2; have hzgb3_3_4 : w4.cell? ⟨gb3, 3, none⟩ = some (.bool a0_3) := (aD BK3.out 3).trans rfl; have hygb3_3_4 := aA BK3.out 3))
 go_loopg [16] (l0_0.length) (fun kq  v5 w' => ∃ (i5 : Nat) (x5 : Int) (u5 : Value), v5 = .int .i64 x5 ∧ aC (x5 = (i5 : Int)) ∧ aC (i5 + kq = l0_0.length) ∧ aC ((gb3 + 1) ≤ w'.heap.size) ∧ aC (Kd.S (Kd.slice 5 (Kd.int .u8)) 37 w' w.heap.size (Up 0 0 (gb3 + 1)) u5 (l0_0.take i5)) ∧ aC (Kd.F (Kd.slice 5 (Kd.int .u8)) w' (In 0 w.heap.size) A0_0 l0_0.length l0_0) ∧ aC (Kd.F k50 w' (In 0 w.heap.size) A0_1 l0_1.length l0_1) ∧ aC (w'.heap[gb1]? = some (.cells #[.slice A0_0 l0_0.length c0_0, .slice A0_1 l0_1.length c0_1, .int .i64 a0_2, .bool a0_3] 25 (0, 0))) ∧ aC (w'.heap[gb2]? = some (.cells #[.slice none 0 0, .slice none 0 0, .int .i64 0, .bool false] 25 (0, 0))) ∧ aC (w'.heap[gb3]? = some (.cells #[u5, .slice none 0 0, .int .i64 a0_2, .bool a0_3] 25 (0, 0))) ∧ aC (Below w.heap.size w w'))
 case atStart => exact ⟨0, 0, _, rfl, ⟨rfl⟩, ⟨Nat.zero_add _⟩, HT, ⟨by rw [show l0_0.take 0 = [] from rfl]; exact Kd.S_nil _ _ _ _ _⟩, HF0_0, HF0_1, BK1, BK2, BK3, HB⟩
 clear HF0_0 HF0_1 BK1 BK2 BK3 HB HT
 obtain ⟨i5, x5, u5, rfl, HI5, HK5, HT, HS5, HF0_0, HF0_1, BK1, BK2, BK3, HB⟩ := hrel
 obtain ⟨xs5, ex_⟩ : ∃ y_, y_ = l0_0.take i5 := ⟨_, rfl⟩
 rw [← ex_] at HS5
 have HX5 := aC.mk ex_
 clear ex_
 obtain ⟨A5, c5, ev_⟩ := Kd.S_slice HS5.out
 subst ev_
 obtain ⟨hi5, e2_⟩ : ∃ n_, n_ = wr.heap.size := ⟨_, rfl⟩
 have ol_ : (gb3 + 1) ≤ hi5 := (by rw [e2_]; exact HT.out)
 have hs_ := Kd.S_mono (ok' := In2 0 0 (gb3 + 1) hi5) (Kd.S_bound HS5.out) (fun k_ hk_ => by have h1_ := hk_.1; have h2_ := hk_.2.2.1; rw [← e2_] at h2_; (try simp only [In2, Up, In, Ex, Exb] at h1_ ⊢); omega)
 have n0_ := aC.mk (And.intro HORD.out ol_)
 have n1_ := aC.mk (Nat.le_of_eq e2_)
 clear HS5 HORD HT
 have HORD := n0_
 have HT := n1_
 have HS5 := aC.mk hs_
 have HF5 := aC.mk (Kd.S_F hs_)
 have HC5 := aC.mk (Kd.S_reads' hs_).2.1
 clear n0_ n1_ hs_ ol_ e2_
 rcases gk with _ | k1
 rotate_left
 ·have hp_ : 0 ≤ x5 := (by have := HI5.out; omega)
  have hq_ : x5 < (l0_0.length : Int) := (by have := HI5.out; have := HK5.out; omega)
  have hd_ : decide (x5 < (l0_0.length : Int)) = true := decide_eq_true hq_
  have hzgb1_0_5 : wr.cell? ⟨gb1, 0, none⟩ = some (.slice A0_0 l0_0.length c0_0) := (aD BK1.out 0).trans rfl
  have hygb1_0_5 := aA BK1.out 0
  have hzgb1_1_5 : wr.cell? ⟨gb1, 1, none⟩ = some (.slice A0_1 l0_1.length c0_1) := (aD BK1.out 1).trans rfl
  have hygb1_1_5 := aA BK1.out 1
  have hzgb1_2_5 : wr.cell? ⟨gb1, 2, none⟩ = some (.int .i64 a0_2) := (aD BK1.out 2).trans rfl
  have hygb1_2_5 := aA BK1.out 2
  have hzgb1_3_5 : wr.cell? ⟨gb1, 3, none⟩ = some (.bool a0_3) := (aD BK1.out 3).trans rfl
  have hygb1_3_5 := aA BK1.out 3
  have hzgb2_0_5 : wr.cell? ⟨gb2, 0, none⟩ = some (.slice none 0 0) := (aD BK2.out 0).trans rfl
  have hygb2_0_5 := aA BK2.out 0
  have hzgb2_1_5 : wr.cell? ⟨gb2, 1, none⟩ = some (.slice none 0 0) := (aD BK2.out 1).trans rfl
  have hygb2_1_5 := aA BK2.out 1
  have hzgb2_2_5 : wr.cell? ⟨gb2, 2, none⟩ = some (.int .i64 0) := (aD BK2.out 2).trans rfl
  have hygb2_2_5 := aA BK2.out 2
  have hzgb2_3_5 : wr.cell? ⟨gb2, 3, none⟩ = some (.bool false) := (aD BK2.out 3).trans rfl
  have hygb2_3_5 := aA BK2.out 3
  have hzgb3_0_5 : wr.cell? ⟨gb3, 0, none⟩ = some (.slice A5 xs5.length c5) := (aD BK3.out 0).trans rfl
  have hygb3_0_5 := aA BK3.out 0
  have hzgb3_1_5 : wr.cell? ⟨gb3, 1, none⟩ = some (.slice none 0 0) := (aD BK3.out 1).trans rfl
  have hygb3_1_5 := aA BK3.out 1
  have hzgb3_2_5 : wr.cell? ⟨gb3, 2, none⟩ = some (.int .i64 a0_2) := (aD BK3.out 2).trans rfl
  have hygb3_2_5 := aA BK3.out 2
  have hzgb3_3_5 : wr.cell? ⟨gb3, 3, none⟩ = some (.bool a0_3) := (aD BK3.out 3).trans rfl
  have hygb3_3_5 := aA BK3.out 3
  obtain ⟨ad6, Ae6, ce6, ee6, hx6_0, hl6, hf6⟩ := F_row HF0_0.out x5 hp_ hq_
  cases ee6
  have HF6 := aC.mk hf6
  have HC6 := aC.mk hl6
  clear hf6 hl6
  try go_wp2
  have n_ := aC.mk (Kd.F_drew HF0_0.out)
  clear HF0_0
  have HF0_0 := n_
  clear n_
  have n_ := aC.mk (Kd.F_drew HF0_1.out)
  clear HF0_1
  have HF0_1 := n_
  clear n_
  have n_ := aC.mk (Kd.F_drew HF5.out)
  clear HF5
  have HF5 := n_
  clear n_
  have n_ := aC.mk (Kd.S_drew HS5.out)
  clear HS5
  have HS5 := n_
  clear n_
  have n_ := aC.mk (Kd.F_drew HF6.out)
  clear HF6
  have HF6 := n_
  clear n_
  have n_ := aC.mk (aQ BK1.out)
  clear BK1
  have BK1 := n_
  clear n_
  have n_ := aC.mk (aQ BK2.out)
  clear BK2
  have BK2 := n_
  clear n_
  have n_ := aC.mk (aQ BK3.out)
  clear BK3
  have BK3 := n_
  clear n_
  have n_ := aC.mk (aH HB.out)
  clear HB
  have HB := n_
  clear n_
  have n_ := aC.mk (show _ ≤ wr.drew.heap.size from HT.out)
  clear HT
  have HT := n_
  clear n_
  refine start_ (n := 9) (S := fun w' => w'.cell? ⟨gb3, 0, none⟩ = some (.slice A5 xs5.length c5) ∧ w'.cell? ⟨gb3, 1, none⟩ = some (.slice none 0 0) ∧ w'.cell? ⟨gb3, 2, none⟩ = some (.int .i64 a0_2) ∧ w'.cell? ⟨gb3, 3, none⟩ = some (.bool a0_3)) (ds := [8]) #[false, false, false, false, false, false, false, false, false] (by kernel_rfl) rfl rfl ⟨(aD BK3.out 0).trans rfl, (aD BK3.out 1).trans rfl, (aD BK3.out 2).trans rfl, (aD BK3.out 3).trans rfl⟩ (fun hHeld => ?_)
  generalize wr.drew = w7 at HF0_0 HF0_1 HF5 HS5 HF6 BK1 BK2 BK3 HB HT hHeld ⊢
  refine pure_ (i := 0) (N := some 20) (v := ?_) (a' := ?_) #[true, false, false, false, false, false, false, false, false] rfl rfl (by kernel_rfl) (fun _ _ _ h => h) (Or.inl ⟨by rfl, ?_⟩) ?_ ?_
  rotate_left
  ·intro w'
   go_simp
   with_reducible rfl
  rotate_left
  ·simp only [Act.put, lA, lB, lC, bE, bF]
   rfl
  refine take_ (i := 1) (N := some 21) (v := ?_) (a' := ?_) #[true, true, false, false, false, false, false, false, false] rfl rfl (by kernel_rfl) (fun _ _ _ h => h) (Or.inl ⟨by rfl, ?_⟩) hHeld ?_ ?_
  rotate_left
  ·rintro w' ⟨s0, s1, s2, s3⟩
   go_simp
   with_reducible rfl
  rotate_left
  ·simp only [Act.put, lA, lB, lC, bE, bF]
   rfl
  refine pure_ (i := 2) (N := some 22) (v := ?_) (a' := ?_) #[true, true, true, false, false, false, false, false, false] rfl rfl (by kernel_rfl) (fun _ _ _ h => h) (Or.inl ⟨by rfl, ?_⟩) ?_ ?_
  rotate_left
  ·intro w'
   go_simp
   with_reducible rfl
  rotate_left
  ·simp only [Act.put, lA, lB, lC, bE, bF]
   rfl
  refine one_ (i := 3) (N := some 23) #[true, true, true, true, false, false, false, false, false] rfl rfl (by kernel_rfl) (by decide) (fun K hK => ?_)
  refine Kd.N_lit_step (Kd.slice 5 (Kd.int .u8)) _ 37 ?hg (N' := 23) ?hd (xs := ([(rdR l0_0 x5)] : List (List (Int)))) (inner := [.slice Ae6 ((rdR l0_0 x5)).length ce6]) (ok := (fun k_ => (In 0 w.heap.size) k_ ∨ hi5 ≤ k_)) (okp := (In 0 w.heap.size)) ?hr ?hp (fun _ hk => .inl hk) (.inr HT.out) (Below.refl _ _) (Nat.le_refl _) (by simp) ?_
  (case hd => rfl)
  (case hg => rfl)
  (case hr => first | (go_simp; done) | (go_simp; rfl))
  (case hp => exact (Reps.one (Kd.FK_slice_mk HC6.out HF6.out) (Reps.none _ _)))
  intro vl8 w8 ho_ hb hg_ hat_
  obtain ⟨A8, c8, ev_⟩ := Kd.N_slice ho_
  subst ev_
  have n0_ := aC.mk (Kd.aU HF0_0.out hb)
  have n1_ := aC.mk (Kd.aU HF0_1.out hb)
  have n2_ := aC.mk (Kd.aU HF5.out hb)
  have n3_ := aC.mk (Kd.bH HS5.out hb)
  have n4_ := aC.mk (Kd.aU HF6.out hb)
  have n5_ := aC.mk (aM BK1.out hb)
  have n6_ := aC.mk (aM BK2.out hb)
  have n7_ := aC.mk (aM BK3.out hb)
  have n8_ := aC.mk (aV HB.out hb)
  have n9_ := aC.mk (Nat.le_trans HT.out hb.size)
  have n10_ := aC.mk (Kd.N_F ho_)
  have n11_ := aC.mk ((Kd.N_reads' ho_).2.1)
  (try clear HF0_0)
  (try clear HF0_1)
  (try clear HF5)
  (try clear HS5)
  (try clear HF6)
  (try clear BK1)
  (try clear BK2)
  (try clear BK3)
  (try clear HB)
  (try clear HT)
  (try clear HF8)
  (try clear HC8)
  have HF0_0 := n0_
  have HF0_1 := n1_
  have HF5 := n2_
  have HS5 := n3_
  have HF6 := n4_
  have BK1 := n5_
  have BK2 := n6_
  have BK3 := n7_
  have HB := n8_
  have HT := n9_
  have HF8 := n10_
  have HC8 := n11_
  clear n0_ n1_ n2_ n3_ n4_ n5_ n6_ n7_ n8_ n9_ n10_ n11_
  clear hb ho_ hg_ hat_
  refine hK.out _ _ ⟨(aD BK3.out 0).trans rfl, (aD BK3.out 1).trans rfl, (aD BK3.out 2).trans rfl, (aD BK3.out 3).trans rfl⟩ (fun hHeld => ?_)
  clear hK K
  refine norm_ (a' := ?_) ?_ ?_
  rotate_left
  ·show Act.put _ (some 23) _ = _
   simp only [Act.put, lA, lB, lC, bE, bF]
   rfl
  refine one_ (i := 4) (N := some 24) #[true, true, true, true, true, false, false, false, false] rfl rfl (by kernel_rfl) (by decide) (fun K hK => ?_)
  obtain ⟨kj10, hj_⟩ := joined1 ((rdR l0_0 x5)) (by first | exact getS_len hok0 _ | exact getW_len hok1 _)
  have J10 := aC.mk hj_
  clear hj_
  refine goes_ Try.func55 (by kernel_rfl) rfl #[.slice A8 (([(rdR l0_0 x5)] : List (List (Int)))).length c8] (by rfl) rfl rfl (by (try simp only [List.map_toArray, List.map_cons, List.map_nil]); first | done | rfl | (simp only [List.length_drop, List.length_take]; rfl)) ?_
  (with_reducible refine (impl_joined.calls kj10 _ _ (([(rdR l0_0 x5)] : List (List (Int)))) ((rdR l0_0 x5)) _ ?s1 ?s2 J10.out).mono ?_)
  (case s1 => exact (Kd.F_now HF8.out))
  (case s2 => exact HC8.out)
  rintro e_ w9 ⟨v0_, rfl, ho0, hb⟩
  refine ⟨_, rfl, ?_⟩
  obtain ⟨lo9, hi9, el_, eh_, ol_, oh_⟩ := Mem.times HT.out hb
  (try rw [← el_] at ho0)
  obtain ⟨A9_0, c9_0, ev_, hc0_, hf0_, hs0_⟩ := Mem.new_R ho0 eh_
  subst ev_
  have n0_ := aC.mk (Kd.aU HF0_0.out hb)
  have n1_ := aC.mk (Kd.aU HF0_1.out hb)
  have n2_ := aC.mk (Kd.aU HF5.out hb)
  have n3_ := aC.mk (Kd.bH HS5.out hb)
  have n4_ := aC.mk (Kd.aU HF6.out hb)
  have n5_ := aC.mk (Kd.aU HF8.out hb)
  have n6_ := aC.mk (aM BK1.out hb)
  have n7_ := aC.mk (aM BK2.out hb)
  have n8_ := aC.mk (aM BK3.out hb)
  have n9_ := aC.mk (aV HB.out hb)
  have n10_ := aC.mk (hf0_)
  have n11_ := aC.mk (hc0_)
  have n12_ := aC.mk (hs0_)
  have n13_ := aC.mk (And.intro HORD.out (And.intro ol_ oh_))
  have n14_ := aC.mk (Nat.le_of_eq eh_)
  (try clear HF0_0)
  (try clear HF0_1)
  (try clear HF5)
  (try clear HS5)
  (try clear HF6)
  (try clear HF8)
  (try clear BK1)
  (try clear BK2)
  (try clear BK3)
  (try clear HB)
  (try clear HF9_0)
  (try clear HC9_0)
  (try clear HS9_0)
  (try clear HORD)
  (try clear HT)
  have HF0_0 := n0_
  have HF0_1 := n1_
  have HF5 := n2_
  have HS5 := n3_
  have HF6 := n4_
  have HF8 := n5_
  have BK1 := n6_
  have BK2 := n7_
  have BK3 := n8_
  have HB := n9_
  have HF9_0 := n10_
  have HC9_0 := n11_
  have HS9_0 := n12_
  have HORD := n13_
  have HT := n14_
  clear n0_ n1_ n2_ n3_ n4_ n5_ n6_ n7_ n8_ n9_ n10_ n11_ n12_ n13_ n14_
  clear ol_ oh_ el_ eh_ ho0 hf0_ hc0_ hs0_
  (try clear hb)
  refine hK.out _ _ ⟨(aD BK3.out 0).trans rfl, (aD BK3.out 1).trans rfl, (aD BK3.out 2).trans rfl, (aD BK3.out 3).trans rfl⟩ (fun hHeld => ?_)
  clear hK K
  refine norm_ (a' := ?_) ?_ ?_
  rotate_left
  ·show Act.put _ (some 24) _ = _
   simp only [Act.put, lA, lB, lC, bE, bF]
   rfl
  refine one_ (i := 5) (N := some 25) #[true, true, true, true, true, true, false, false, false] rfl rfl (by kernel_rfl) (by decide) (fun K hK => ?_)
  refine value_ (w1 := ?_) (v := ?_) (by rfl) rfl ?_ ?_
  rotate_left 2
  ·go_simp
   constructor
   ·rfl
   ·rfl
  refine hK.out _ _ ⟨(aD (aN BK3.out _) 0).trans rfl, (aD (aN BK3.out _) 1).trans rfl, (aD (aN BK3.out _) 2).trans rfl, (aD (aN BK3.out _) 3).trans rfl⟩ (fun hHeld => ?_)
  clear hK K
  refine norm_ (a' := ?_) ?_ ?_
  rotate_left
  ·show Act.put _ (some 25) _ = _
   simp only [Act.put, lA, lB, lC, bE, bF]
   rfl
  refine one_ (i := 6) (N := some 26) #[true, true, true, true, true, true, true, false, false] rfl rfl (by kernel_rfl) (by decide) (fun K hK => ?_)
  refine Kd.S_append_step (Kd.slice 5 (Kd.int .u8)) (w0 := w) w.heap.size (by rfl) (.tmp 21) (.tmp 25) 22 37 (.slice none 0 0) 24 rfl Try.underlying22 info37 rfl (by decide) (by omega) (.slice A5 xs5.length c5) xs5 ((rdR l0_0 x5)) [.slice A9_0 ((rdR l0_0 x5)).length c9_0] (Up 0 0 (gb3 + 1)) (In lo9 hi9) rfl rfl ?aP ?aK ?aF ?aO ?aB ?aS ?aL ?_
  (case aB => exact HB.out)
  (case aS => exact aW HB.out)
  (case aP => exact Kd.M_row (Kd.R_lower HS9_0.out (by have o_ := HORD.out; have t_ := HT.out; (try simp only [In2, Up, In, Ex, Exb] at *); omega)))
  (case aK => exact (fun k_ hk_ => ⟨(by have o_ := HORD.out; have t_ := HT.out; (try simp only [In2, Up, In, Ex, Exb] at hk_ ⊢); omega), (fun he_ => by have hz_ := (Kd.S_R HS5.out).1 k_ he_.symm; have o_ := HORD.out; have t_ := HT.out; (try simp only [In2, Up, In, Ex, Exb] at hk_ hz_); omega)⟩))
  (case aF => exact (fun k_ hk_ => by have o_ := HORD.out; have t_ := HT.out; (try simp only [In2, Up, In, Ex, Exb] at hk_ ⊢); omega))
  (case aO => exact Kd.S_mono (Kd.S_lower HS5.out (by have o_ := HORD.out; omega)) (fun k_ hk_ => ⟨(by have o_ := HORD.out; have t_ := HT.out; (try simp only [In2, Up, In, Ex, Exb] at hk_ ⊢); omega), (fun h2_ => by have o_ := HORD.out; have t_ := HT.out; (try simp only [In2, Up, In, Ex, Exb] at hk_ h2_); omega)⟩))
  (case aL => (have hl1_ := okByteSS_len hok0; have h3_ := congrArg List.length HX5.out; rw [List.length_take] at h3_; omega))
  intro v11 w11 ho_ hbn_ hg_ hat_
  obtain ⟨ys11, ey_⟩ : ∃ y_, y_ = xs5 ++ [(rdR l0_0 x5)] := ⟨_, rfl⟩
  rw [← ey_] at ho_
  have HY11 := aC.mk ey_
  clear ey_
  have hkp := kept_grown (S := (In2 0 0 (gb3 + 1) hi5)) hg_ (fun k_ he_ => (Kd.S_R HS5.out).1 k_ he_)
  obtain ⟨A11, c11, ev_⟩ := Kd.S_slice ho_
  subst ev_
  obtain ⟨hi11, e2_⟩ : ∃ n_, n_ = w11.heap.size := ⟨_, rfl⟩
  have ol_ : hi9 ≤ hi11 := (by rw [e2_]; exact Nat.le_trans HT.out hkp.1)
  have hs_ := Kd.S_mono (ok' := In2 0 0 (gb3 + 1) hi11) (Kd.S_bound ho_) (fun k_ hk_ => by have h1_ := hk_.1; have h2_ := hk_.2.2.1; rw [← e2_] at h2_; (try simp only [In2, Up, In, Ex, Exb] at h1_ ⊢); omega)
  have n0_ := aC.mk (Kd.aZ HF0_0.out hkp (fun k_ h1_ h2_ => by have o_ := HORD.out; have t_ := HT.out; (try simp only [In2, Up, In, Ex, Exb] at h1_ h2_); omega))
  have n1_ := aC.mk (Kd.aZ HF0_1.out hkp (fun k_ h1_ h2_ => by have o_ := HORD.out; have t_ := HT.out; (try simp only [In2, Up, In, Ex, Exb] at h1_ h2_); omega))
  have n2_ := aC.mk (Kd.aZ HF6.out hkp (fun k_ h1_ h2_ => by have o_ := HORD.out; have t_ := HT.out; (try simp only [In2, Up, In, Ex, Exb] at h1_ h2_); omega))
  have n3_ := aC.mk (bA BK1.out hkp (fun h2_ => by have o_ := HORD.out; have t_ := HT.out; (try simp only [In2, Up, In, Ex, Exb] at h2_); omega))
  have n4_ := aC.mk (bA BK2.out hkp (fun h2_ => by have o_ := HORD.out; have t_ := HT.out; (try simp only [In2, Up, In, Ex, Exb] at h2_); omega))
  have n5_ := aC.mk (bA BK3.out hkp (fun h2_ => by have o_ := HORD.out; have t_ := HT.out; (try simp only [In2, Up, In, Ex, Exb] at h2_); omega))
  have n6_ := aC.mk (hbn_)
  have n7_ := aC.mk (And.intro HORD.out ol_)
  have n8_ := aC.mk (Nat.le_of_eq e2_)
  have n9_ := aC.mk (hs_)
  have n10_ := aC.mk (Kd.S_F hs_)
  have n11_ := aC.mk ((Kd.S_reads' hs_).2.1)
  (try clear HF0_0)
  (try clear HF0_1)
  (try clear HF6)
  (try clear BK1)
  (try clear BK2)
  (try clear BK3)
  (try clear HB)
  (try clear HORD)
  (try clear HT)
  (try clear HS11)
  (try clear HF11)
  (try clear HC11)
  have HF0_0 := n0_
  have HF0_1 := n1_
  have HF6 := n2_
  have BK1 := n3_
  have BK2 := n4_
  have BK3 := n5_
  have HB := n6_
  have HORD := n7_
  have HT := n8_
  have HS11 := n9_
  have HF11 := n10_
  have HC11 := n11_
  clear n0_ n1_ n2_ n3_ n4_ n5_ n6_ n7_ n8_ n9_ n10_ n11_
  clear hs_ ho_ hbn_ hg_ hat_ hkp ol_ e2_
  refine hK.out _ _ ⟨(aD BK3.out 0).trans rfl, (aD BK3.out 1).trans rfl, (aD BK3.out 2).trans rfl, (aD BK3.out 3).trans rfl⟩ (fun hHeld => ?_)
  clear hK K
  refine norm_ (a' := ?_) ?_ ?_
  rotate_left
  ·show Act.put _ (some 26) _ = _
   simp only [Act.put, lA, lB, lC, bE, bF]
   rfl
  refine pure_ (i := 7) (N := some 27) (v := ?_) (a' := ?_) #[true, true, true, true, true, true, true, true, false] rfl rfl (by kernel_rfl) (fun _ _ _ h => h) (Or.inl ⟨by rfl, ?_⟩) ?_ ?_
  rotate_left
  ·intro w'
   go_simp
   with_reducible rfl
  rotate_left
  ·simp only [Act.put, lA, lB, lC, bE, bF]
   rfl
  refine last_ (i := 8) (N := none) #[true, true, true, true, true, true, true, true, true] rfl rfl (by kernel_rfl) (by decide) (fun K hK => ?_)
  have hzgb1_0_12 : w11.cell? ⟨gb1, 0, none⟩ = some (.slice (some ad6) l0_0.length c0_0) := (aD BK1.out 0).trans rfl
  have hygb1_0_12 := aA BK1.out 0
  have hzgb1_1_12 : w11.cell? ⟨gb1, 1, none⟩ = some (.slice A0_1 l0_1.length c0_1) := (aD BK1.out 1).trans rfl
  have hygb1_1_12 := aA BK1.out 1
  have hzgb1_2_12 : w11.cell? ⟨gb1, 2, none⟩ = some (.int .i64 a0_2) := (aD BK1.out 2).trans rfl
  have hygb1_2_12 := aA BK1.out 2
  have hzgb1_3_12 : w11.cell? ⟨gb1, 3, none⟩ = some (.bool a0_3) := (aD BK1.out 3).trans rfl
  have hygb1_3_12 := aA BK1.out 3
  have hzgb2_0_12 : w11.cell? ⟨gb2, 0, none⟩ = some (.slice none 0 0) := (aD BK2.out 0).trans rfl
  have hygb2_0_12 := aA BK2.out 0
  have hzgb2_1_12 : w11.cell? ⟨gb2, 1, none⟩ = some (.slice none 0 0) := (aD BK2.out 1).trans rfl
  have hygb2_1_12 := aA BK2.out 1
  have hzgb2_2_12 : w11.cell? ⟨gb2, 2, none⟩ = some (.int .i64 0) := (aD BK2.out 2).trans rfl
  have hygb2_2_12 := aA BK2.out 2
  have hzgb2_3_12 : w11.cell? ⟨gb2, 3, none⟩ = some (.bool false) := (aD BK2.out 3).trans rfl
  have hygb2_3_12 := aA BK2.out 3
  have hzgb3_0_12 : w11.cell? ⟨gb3, 0, none⟩ = some (.slice A5 xs5.length c5) := (aD BK3.out 0).trans rfl
  have hygb3_0_12 := aA BK3.out 0
  have hzgb3_1_12 : w11.cell? ⟨gb3, 1, none⟩ = some (.slice none 0 0) := (aD BK3.out 1).trans rfl
  have hygb3_1_12 := aA BK3.out 1
  have hzgb3_2_12 : w11.cell? ⟨gb3, 2, none⟩ = some (.int .i64 a0_2) := (aD BK3.out 2).trans rfl
  have hygb3_2_12 := aA BK3.out 2
  have hzgb3_3_12 : w11.cell? ⟨gb3, 3, none⟩ = some (.bool a0_3) := (aD BK3.out 3).trans rfl
  have hygb3_3_12 := aA BK3.out 3
  have hge_ : w.heap.size ≤ gb3 := (by have o_ := HORD.out; omega)
  refine skip_ (w1 := ?_) (by rfl) rfl ?_ ?_
  rotate_left
  ·go_simp
   rfl
  refine hK.out _ _ ?_
  clear hK K
  refine done_ (by kernel_rfl) ?_
  obtain ⟨w12, hw_⟩ : ∃ z_, z_ = (w11.setCell ⟨gb3, 0, none⟩ (.slice A11 ys11.length c11)) := ⟨_, rfl⟩
  (try rw [← hw_])
  have hkp : Kept w11 w12 (fun k_ => k_ = gb3) := (by rw [hw_]; exact Kept.setCell (Kept.refl w11 (fun k_ => k_ = gb3)) (.inl rfl) (.slice A11 ys11.length c11))
  have hbn_ : Below w.heap.size w w12 := (by rw [hw_]; exact aG (HB.out) hge_)
  have hbk_ : w12.heap[gb3]? = some (.cells #[.slice A11 ys11.length c11, .slice none 0 0, .int .i64 a0_2, .bool a0_3] 25 (0, 0)) := (by rw [hw_]; exact aX (cs := #[.slice A5 xs5.length c5, .slice none 0 0, .int .i64 a0_2, .bool a0_3]) (cs' := #[.slice A11 ys11.length c11, .slice none 0 0, .int .i64 a0_2, .bool a0_3]) (BK3.out) 0 _ rfl)
  have hsz_ : hi11 ≤ w12.heap.size := Nat.le_trans HT.out hkp.1
  have n0_ := aC.mk (Kd.aZ HF0_0.out hkp (fun k_ h1_ h2_ => by have o_ := HORD.out; have t_ := HT.out; (try simp only [In2, Up, In, Ex, Exb] at h1_ h2_); omega))
  have n1_ := aC.mk (Kd.aZ HF0_1.out hkp (fun k_ h1_ h2_ => by have o_ := HORD.out; have t_ := HT.out; (try simp only [In2, Up, In, Ex, Exb] at h1_ h2_); omega))
  have n2_ := aC.mk (Kd.aZ HF6.out hkp (fun k_ h1_ h2_ => by have o_ := HORD.out; have t_ := HT.out; (try simp only [In2, Up, In, Ex, Exb] at h1_ h2_); omega))
  have n3_ := aC.mk (Kd.aZ HF11.out hkp (fun k_ h1_ h2_ => by have o_ := HORD.out; have t_ := HT.out; (try simp only [In2, Up, In, Ex, Exb] at h1_ h2_); omega))
  have n4_ := aC.mk (Kd.S_kept HS11.out hkp (fun k_ h1_ h2_ => by have o_ := HORD.out; have t_ := HT.out; (try simp only [In2, Up, In, Ex, Exb] at h1_ h2_); omega))
  have n5_ := aC.mk (bA BK1.out hkp (fun h2_ => by have o_ := HORD.out; have t_ := HT.out; (try simp only [In2, Up, In, Ex, Exb] at h2_); omega))
  have n6_ := aC.mk (bA BK2.out hkp (fun h2_ => by have o_ := HORD.out; have t_ := HT.out; (try simp only [In2, Up, In, Ex, Exb] at h2_); omega))
  have n7_ := aC.mk (hbn_)
  have n8_ := aC.mk (hbk_)
  have n9_ := aC.mk (hsz_)
  (try clear HF0_0)
  (try clear HF0_1)
  (try clear HF6)
  (try clear HF11)
  (try clear HS11)
  (try clear BK1)
  (try clear BK2)
  (try clear HB)
  (try clear BK3)
  (try clear HT)
  have HF0_0 := n0_
  have HF0_1 := n1_
  have HF6 := n2_
  have HF11 := n3_
  have HS11 := n4_
  have BK1 := n5_
  have BK2 := n6_
  have HB := n7_
  have BK3 := n8_
  have HT := n9_
  clear n0_ n1_ n2_ n3_ n4_ n5_ n6_ n7_ n8_ n9_
  clear hw_ hkp hge_ hbn_ hbk_ hsz_
  have hzgb1_0_12 : w12.cell? ⟨gb1, 0, none⟩ = some (.slice (some ad6) l0_0.length c0_0) := (aD BK1.out 0).trans rfl
  have hygb1_0_12 := aA BK1.out 0
  have hzgb1_1_12 : w12.cell? ⟨gb1, 1, none⟩ = some (.slice A0_1 l0_1.length c0_1) := (aD BK1.out 1).trans rfl
  have hygb1_1_12 := aA BK1.out 1
  have hzgb1_2_12 : w12.cell? ⟨gb1, 2, none⟩ = some (.int .i64 a0_2) := (aD BK1.out 2).trans rfl
  have hygb1_2_12 := aA BK1.out 2
  have hzgb1_3_12 : w12.cell? ⟨gb1, 3, none⟩ = some (.bool a0_3) := (aD BK1.out 3).trans rfl
  have hygb1_3_12 := aA BK1.out 3
  have hzgb2_0_12 : w12.cell? ⟨gb2, 0, none⟩ = some (.slice none 0 0) := (aD BK2.out 0).trans rfl
  have hygb2_0_12 := aA BK2.out 0
  have hzgb2_1_12 : w12.cell? ⟨gb2, 1, none⟩ = some (.slice none 0 0) := (aD BK2.out 1).trans rfl
  have hygb2_1_12 := aA BK2.out 1
  have hzgb2_2_12 : w12.cell? ⟨gb2, 2, none⟩ = some (.int .i64 0) := (aD BK2.out 2).trans rfl
  have hygb2_2_12 := aA BK2.out 2
  have hzgb2_3_12 : w12.cell? ⟨gb2, 3, none⟩ = some (.bool false) := (aD BK2.out 3).trans rfl
  have hygb2_3_12 := aA BK2.out 3
  have hzgb3_0_12 : w12.cell? ⟨gb3, 0, none⟩ = some (.slice A11 ys11.length c11) := (aD BK3.out 0).trans rfl
  have hygb3_0_12 := aA BK3.out 0
  have hzgb3_1_12 : w12.cell? ⟨gb3, 1, none⟩ = some (.slice none 0 0) := (aD BK3.out 1).trans rfl
  have hygb3_1_12 := aA BK3.out 1
  have hzgb3_2_12 : w12.cell? ⟨gb3, 2, none⟩ = some (.int .i64 a0_2) := (aD BK3.out 2).trans rfl
  have hygb3_2_12 := aA BK3.out 2
  have hzgb3_3_12 : w12.cell? ⟨gb3, 3, none⟩ = some (.bool a0_3) := (aD BK3.out 3).trans rfl
  have hygb3_3_12 := aA BK3.out 3
  try go_wp2
  go_roundg k1
  case measure => omega
  case rel => exact ⟨i5 + 1, _, _, rfl, ⟨show _ = ((i5 + 1 : Nat) : Int) by have := HI5.out; have hm_ := Kd.F_max HF0_0.out; have := HK5.out; first | (rw [w64 (by omega) (by omega)]; omega) | omega⟩, ⟨by have := HK5.out; omega⟩, ⟨Nat.le_trans (by have o_ := HORD.out; omega) HT.out⟩, ⟨by rw [show l0_0.take (i5 + 1) = ys11 from (by rw [HY11.out, HX5.out]; unfold rdR; rw [show x5.toNat = i5 from by have := HI5.out; omega]; exact take_getD _ _ [] (by have := HK5.out; omega))]; exact Kd.S_mono (Kd.S_lower HS11.out (by have o_ := HORD.out; omega)) (fun k_ hk_ => by have o_ := HORD.out; have t_ := HT.out; (try simp only [In2, Up, In, Ex, Exb] at hk_ ⊢); omega)⟩, HF0_0, HF0_1, BK1, BK2, BK3, HB⟩
 have hi0_ : i5 = l0_0.length := (by have := HK5.out; omega)
 have hd_ : decide (x5 < (l0_0.length : Int)) = false := decide_eq_false (by have := HI5.out; omega)
 have eall_ : xs5 = l0_0 := (by rw [HX5.out, hi0_, List.take_length])
 rw [eall_] at HS5 HF5 HC5 BK3
 have hzgb1_0_12 : wr.cell? ⟨gb1, 0, none⟩ = some (.slice A0_0 l0_0.length c0_0) := (aD BK1.out 0).trans rfl
 have hygb1_0_12 := aA BK1.out 0
 have hzgb1_1_12 : wr.cell? ⟨gb1, 1, none⟩ = some (.slice A0_1 l0_1.length c0_1) := (aD BK1.out 1).trans rfl
 have hygb1_1_12 := aA BK1.out 1
 have hzgb1_2_12 : wr.cell? ⟨gb1, 2, none⟩ = some (.int .i64 a0_2) := (aD BK1.out 2).trans rfl
 have hygb1_2_12 := aA BK1.out 2
 have hzgb1_3_12 : wr.cell? ⟨gb1, 3, none⟩ = some (.bool a0_3) := (aD BK1.out 3).trans rfl
 have hygb1_3_12 := aA BK1.out 3
 have hzgb2_0_12 : wr.cell? ⟨gb2, 0, none⟩ = some (.slice none 0 0) := (aD BK2.out 0).trans rfl
 have hygb2_0_12 := aA BK2.out 0
 have hzgb2_1_12 : wr.cell? ⟨gb2, 1, none⟩ = some (.slice none 0 0) := (aD BK2.out 1).trans rfl
 have hygb2_1_12 := aA BK2.out 1
 have hzgb2_2_12 : wr.cell? ⟨gb2, 2, none⟩ = some (.int .i64 0) := (aD BK2.out 2).trans rfl
 have hygb2_2_12 := aA BK2.out 2
 have hzgb2_3_12 : wr.cell? ⟨gb2, 3, none⟩ = some (.bool false) := (aD BK2.out 3).trans rfl
 have hygb2_3_12 := aA BK2.out 3
 have hzgb3_0_12 : wr.cell? ⟨gb3, 0, none⟩ = some (.slice A5 l0_0.length c5) := (aD BK3.out 0).trans rfl
 have hygb3_0_12 := aA BK3.out 0
 have hzgb3_1_12 : wr.cell? ⟨gb3, 1, none⟩ = some (.slice none 0 0) := (aD BK3.out 1).trans rfl
 have hygb3_1_12 := aA BK3.out 1
 have hzgb3_2_12 : wr.cell? ⟨gb3, 2, none⟩ = some (.int .i64 a0_2) := (aD BK3.out 2).trans rfl
 have hygb3_2_12 := aA BK3.out 2
 have hzgb3_3_12 : wr.cell? ⟨gb3, 3, none⟩ = some (.bool a0_3) := (aD BK3.out 3).trans rfl
 have hygb3_3_12 := aA BK3.out 3
 try go_wp2
 go_loopg [32] (l0_1.length) (fun kq  v13 w' => ∃ (i13 : Nat) (x13 : Int) (u13 : Value), v13 = .int .i64 x13 ∧ aC (x13 = (i13 : Int)) ∧ aC (i13 + kq = l0_1.length) ∧ aC (hi5 ≤ w'.heap.size) ∧ aC (Kd.S k50 50 w' w.heap.size (Up 0 0 hi5) u13 (l0_1.take i13)) ∧ aC (Kd.F (Kd.slice 5 (Kd.int .u8)) w' (In 0 w.heap.size) A0_0 l0_0.length l0_0) ∧ aC (Kd.F k50 w' (In 0 w.heap.size) A0_1 l0_1.length l0_1) ∧ aC (Kd.F (Kd.slice 5 (Kd.int .u8)) w' (In2 0 0 (gb3 + 1) hi5) A5 l0_0.length l0_0) ∧ aC (Kd.S (Kd.slice 5 (Kd.int .u8)) 37 w' w.heap.size (In2 0 0 (gb3 + 1) hi5) (.slice A5 l0_0.length c5) l0_0) ∧ aC (w'.heap[gb1]? = some (.cells #[.slice A0_0 l0_0.length c0_0, .slice A0_1 l0_1.length c0_1, .int .i64 a0_2, .bool a0_3] 25 (0, 0))) ∧ aC (w'.heap[gb2]? = some (.cells #[.slice none 0 0, .slice none 0 0, .int .i64 0, .bool false] 25 (0, 0))) ∧ aC (w'.heap[gb3]? = some (.cells #[.slice A5 l0_0.length c5, u13, .int .i64 a0_2, .bool a0_3] 25 (0, 0))) ∧ aC (Below w.heap.size w w'))
 case atStart => exact ⟨0, 0, _, rfl, ⟨rfl⟩, ⟨Nat.zero_add _⟩, HT, ⟨by rw [show l0_1.take 0 = [] from rfl]; exact Kd.S_nil _ _ _ _ _⟩, HF0_0, HF0_1, HF5, HS5, BK1, BK2, BK3, HB⟩
 clear HF0_0 HF0_1 HF5 HS5 BK1 BK2 BK3 HB HT
 obtain ⟨i13, x13, u13, rfl, HI13, HK13, HT, HS13, HF0_0, HF0_1, HF5, HS5, BK1, BK2, BK3, HB⟩ := hrel
 obtain ⟨xs13, ex_⟩ : ∃ y_, y_ = l0_1.take i13 := ⟨_, rfl⟩
 rw [← ex_] at HS13
 have HX13 := aC.mk ex_
 clear ex_
 obtain ⟨A13, c13, ev_⟩ := Kd.S_slice HS13.out
 subst ev_
 obtain ⟨hi13, e2_⟩ : ∃ n_, n_ = wr.heap.size := ⟨_, rfl⟩
 have ol_ : hi5 ≤ hi13 := (by rw [e2_]; exact HT.out)
 have hs_ := Kd.S_mono (ok' := In2 0 0 hi5 hi13) (Kd.S_bound HS13.out) (fun k_ hk_ => by have h1_ := hk_.1; have h2_ := hk_.2.2.1; rw [← e2_] at h2_; (try simp only [In2, Up, In, Ex, Exb] at h1_ ⊢); omega)
 have n0_ := aC.mk (And.intro HORD.out ol_)
 have n1_ := aC.mk (Nat.le_of_eq e2_)
 clear HS13 HORD HT
 have HORD := n0_
 have HT := n1_
 have HS13 := aC.mk hs_
 have HF13 := aC.mk (Kd.S_F hs_)
 have HC13 := aC.mk (Kd.S_reads' hs_).2.1
 clear n0_ n1_ hs_ ol_ e2_
 rcases gk with _ | k1
 rotate_left
 ·have hp_ : 0 ≤ x13 := (by have := HI13.out; omega)
  have hq_ : x13 < (l0_1.length : Int) := (by have := HI13.out; have := HK13.out; omega)
  have hd_ : decide (x13 < (l0_1.length : Int)) = true := decide_eq_true hq_
  have hzgb1_0_13 : wr.cell? ⟨gb1, 0, none⟩ = some (.slice A0_0 l0_0.length c0_0) := (aD BK1.out 0).trans rfl
  have hygb1_0_13 := aA BK1.out 0
  have hzgb1_1_13 : wr.cell? ⟨gb1, 1, none⟩ = some (.slice A0_1 l0_1.length c0_1) := (aD BK1.out 1).trans rfl
  have hygb1_1_13 := aA BK1.out 1
  have hzgb1_2_13 : wr.cell? ⟨gb1, 2, none⟩ = some (.int .i64 a0_2) := (aD BK1.out 2).trans rfl
  have hygb1_2_13 := aA BK1.out 2
  have hzgb1_3_13 : wr.cell? ⟨gb1, 3, none⟩ = some (.bool a0_3) := (aD BK1.out 3).trans rfl
  have hygb1_3_13 := aA BK1.out 3
  have hzgb2_0_13 : wr.cell? ⟨gb2, 0, none⟩ = some (.slice none 0 0) := (aD BK2.out 0).trans rfl
  have hygb2_0_13 := aA BK2.out 0
  have hzgb2_1_13 : wr.cell? ⟨gb2, 1, none⟩ = some (.slice none 0 0) := (aD BK2.out 1).trans rfl
  have hygb2_1_13 := aA BK2.out 1
  have hzgb2_2_13 : wr.cell? ⟨gb2, 2, none⟩ = some (.int .i64 0) := (aD BK2.out 2).trans rfl
  have hygb2_2_13 := aA BK2.out 2
  have hzgb2_3_13 : wr.cell? ⟨gb2, 3, none⟩ = some (.bool false) := (aD BK2.out 3).trans rfl
  have hygb2_3_13 := aA BK2.out 3
  have hzgb3_0_13 : wr.cell? ⟨gb3, 0, none⟩ = some (.slice A5 l0_0.length c5) := (aD BK3.out 0).trans rfl
  have hygb3_0_13 := aA BK3.out 0
  have hzgb3_1_13 : wr.cell? ⟨gb3, 1, none⟩ = some (.slice A13 xs13.length c13) := (aD BK3.out 1).trans rfl
  have hygb3_1_13 := aA BK3.out 1
  have hzgb3_2_13 : wr.cell? ⟨gb3, 2, none⟩ = some (.int .i64 a0_2) := (aD BK3.out 2).trans rfl
  have hygb3_2_13 := aA BK3.out 2
  have hzgb3_3_13 : wr.cell? ⟨gb3, 3, none⟩ = some (.bool a0_3) := (aD BK3.out 3).trans rfl
  have hygb3_3_13 := aA BK3.out 3
  obtain ⟨ad14, Ae14, ce14, ee14, hx14_0, hx14_1, hl14, hf14⟩ := F_wr HF0_1.out x13 hp_ hq_
  cases ee14
  have HF14 := aC.mk hf14
  have HC14 := aC.mk hl14
  clear hf14 hl14
  go_wp2_with (first | ((with_reducible refine bC (N := 7) rfl ?_); refine bB ?hg (N := 7) ?hd (cs := #[.int .i64 0, .slice none 0 0]) (t := 50) ?hr ?_; (case hd => rfl); (case hg => rfl); (case hr => first | (go_simp; done) | (go_simp; rfl)); intro gb15 hg_ w15 hbox hb; have hge_ : hi13 ≤ gb15 := (by rw [hg_]; exact HT.out); have hlt_ : gb15 + 1 ≤ w15.heap.size := bG hbox; have n0_ := aC.mk (Kd.aU HF0_0.out hb); have n1_ := aC.mk (Kd.aU HF0_1.out hb); have n2_ := aC.mk (Kd.aU HF5.out hb); have n3_ := aC.mk (Kd.bH HS5.out hb); have n4_ := aC.mk (Kd.aU HF13.out hb); have n5_ := aC.mk (Kd.bH HS13.out hb); have n6_ := aC.mk (Kd.aU HF14.out hb); have n7_ := aC.mk (aM BK1.out hb); have n8_ := aC.mk (aM BK2.out hb); have n9_ := aC.mk (aM BK3.out hb); have n10_ := aC.mk (aV HB.out hb); have n11_ := aC.mk (hbox); have n12_ := aC.mk (And.intro HORD.out (And.intro hge_ (Nat.le_succ gb15))); have n13_ := aC.mk (hlt_); (try clear HF0_0); (try clear HF0_1); (try clear HF5); (try clear HS5); (try clear HF13); (try clear HS13); (try clear HF14); (try clear BK1); (try clear BK2); (try clear BK3); (try clear HB); (try clear BK15); (try clear HORD); (try clear HT); have HF0_0 := n0_; have HF0_1 := n1_; have HF5 := n2_; have HS5 := n3_; have HF13 := n4_; have HS13 := n5_; have HF14 := n6_; have BK1 := n7_; have BK2 := n8_; have BK3 := n9_; have HB := n10_; have BK15 := n11_; have HORD := n12_; have HT := n13_; clear n0_ n1_ n2_ n3_ n4_ n5_ n6_ n7_ n8_ n9_ n10_ n11_ n12_ n13_; clear hb hbox hg_ hge_ hlt_; have hzgb1_0_15 : w15.cell? ⟨gb1, 0, none⟩ = some (.slice A0_0 l0_0.length c0_0) := (aD BK1.out 0).trans rfl; have hygb1_0_15 := aA BK1.out 0; have hzgb1_1_15 : w15.cell? ⟨gb1, 1, none⟩ = some (.slice (some ad14) l0_1.length c0_1) := (aD BK1.out 1).trans rfl; have hygb1_1_15 := aA BK1.out 1; have hzgb1_2_15 : w15.cell? ⟨gb1, 2, none⟩ = some (.int .i64 a0_2) := (aD BK1.out 2).trans rfl; have hygb1_2_15 := aA BK1.out 2; have hzgb1_3_15 : w15.cell? ⟨gb1, 3, none⟩ = some (.bool a0_3) := (aD BK1.out 3).trans rfl; have hygb1_3_15 := aA BK1.out 3; have hzgb2_0_15 : w15.cell? ⟨gb2, 0, none⟩ = some (.slice none 0 0) := (aD BK2.out 0).trans rfl; have hygb2_0_15 := aA BK2.out 0; have hzgb2_1_15 : w15.cell? ⟨gb2, 1, none⟩ = some (.slice none 0 0) := (aD BK2.out 1).trans rfl; have hygb2_1_15 := aA BK2.out 1; have hzgb2_2_15 : w15.cell? ⟨gb2, 2, none⟩ = some (.int .i64 0) := (aD BK2.out 2).trans rfl; have hygb2_2_15 := aA BK2.out 2; have hzgb2_3_15 : w15.cell? ⟨gb2, 3, none⟩ = some (.bool false) := (aD BK2.out 3).trans rfl; have hygb2_3_15 := aA BK2.out 3; have hzgb3_0_15 : w15.cell? ⟨gb3, 0, none⟩ = some (.slice A5 l0_0.length c5) := (aD BK3.out 0).trans rfl; have hygb3_0_15 := aA BK3.out 0; have hzgb3_1_15 : w15.cell? ⟨gb3, 1, none⟩ = some (.slice A13 xs13.length c13) := (aD BK3.out 1).trans rfl; have hygb3_1_15 := aA BK3.out 1; have hzgb3_2_15 : w15.cell? ⟨gb3, 2, none⟩ = some (.int .i64 a0_2) := (aD BK3.out 2).trans rfl; have hygb3_2_15 := aA BK3.out 2; have hzgb3_3_15 : w15.cell? ⟨gb3, 3, none⟩ = some (.bool a0_3) := (aD BK3.out 3).trans rfl; have hygb3_3_15 := aA BK3.out 3; have hzgb15_0_15 : w15.cell? ⟨gb15, 0, none⟩ = some (.int .i64 0) := (aD BK15.out 0).trans rfl; have hygb15_0_15 := aA BK15.out 0; have hzgb15_1_15 : w15.cell? ⟨gb15, 1, none⟩ = some (.slice none 0 0) := (aD BK15.out 1).trans rfl; have hygb15_1_15 := aA BK15.out 1) | ((with_reducible refine bP (t := 50) (p := 7) rfl ?_); refine bK (t := 50) (p := 7) (v := ?vo_w16) (w1 := ((w15.setCell ⟨gb15, 0, none⟩ (.int .i64 ((rdW l0_1 x13).f0))).setCell ⟨gb15, 1, none⟩ (.slice Ae14 ((rdW l0_1 x13).f1).length ce14))) ?hg ?ho ?hn ?hr ?_; (case ho => rfl); (case hg => rfl); (case hn => rfl); (case hr => first | (go_simp; done) | (go_simp; rfl)); intro w16 hw_; have hkp : Kept w15 w16 (fun k_ => k_ = gb15) := (by rw [hw_]; exact Kept.setCell (Kept.setCell (Kept.refl w15 (fun k_ => k_ = gb15)) (.inl rfl) (.int .i64 ((rdW l0_1 x13).f0))) (.inl rfl) (.slice Ae14 ((rdW l0_1 x13).f1).length ce14)); have hge_ : w.heap.size ≤ gb15 := (by have o_ := HORD.out; (try unfold In at *); (try show _ ≠ _); omega); have hbn_ : Below w.heap.size w w16 := (by rw [hw_]; exact aG (aG (HB.out) hge_) hge_); have hbk_ : w16.heap[gb15]? = some (.cells #[.int .i64 ((rdW l0_1 x13).f0), .slice Ae14 ((rdW l0_1 x13).f1).length ce14] 50 (0, 0)) := (by rw [hw_]; exact aX (cs := #[.int .i64 ((rdW l0_1 x13).f0), .slice none 0 0]) (cs' := #[.int .i64 ((rdW l0_1 x13).f0), .slice Ae14 ((rdW l0_1 x13).f1).length ce14]) (aX (cs := #[.int .i64 0, .slice none 0 0]) (cs' := #[.int .i64 ((rdW l0_1 x13).f0), .slice none 0 0]) (BK15.out) 0 _ rfl) 1 _ rfl); have hsz_ : (gb15 + 1) ≤ w16.heap.size := Nat.le_trans HT.out hkp.1; have n0_ := aC.mk (Kd.aZ HF0_0.out hkp (fun k_ h1_ h2_ => by have o_ := HORD.out; have t_ := HT.out; (try simp only [In2, Up, In, Ex, Exb] at h1_ h2_); omega)); have n1_ := aC.mk (Kd.aZ HF0_1.out hkp (fun k_ h1_ h2_ => by have o_ := HORD.out; have t_ := HT.out; (try simp only [In2, Up, In, Ex, Exb] at h1_ h2_); omega)); have n2_ := aC.mk (Kd.aZ HF5.out hkp (fun k_ h1_ h2_ => by have o_ := HORD.out; have t_ := HT.out; (try simp only [In2, Up, In, Ex, Exb] at h1_ h2_); omega)); have n3_ := aC.mk (Kd.S_kept HS5.out hkp (fun k_ h1_ h2_ => by have o_ := HORD.out; have t_ := HT.out; (try simp only [In2, Up, In, Ex, Exb] at h1_ h2_); omega)); have n4_ := aC.mk (Kd.aZ HF13.out hkp (fun k_ h1_ h2_ => by have o_ := HORD.out; have t_ := HT.out; (try simp only [In2, Up, In, Ex, Exb] at h1_ h2_); omega)); have n5_ := aC.mk (Kd.S_kept HS13.out hkp (fun k_ h1_ h2_ => by have o_ := HORD.out; have t_ := HT.out; (try simp only [In2, Up, In, Ex, Exb] at h1_ h2_); omega)); have n6_ := aC.mk (Kd.aZ HF14.out hkp (fun k_ h1_ h2_ => by have o_ := HORD.out; have t_ := HT.out; (try simp only [In2, Up, In, Ex, Exb] at h1_ h2_); omega)); have n7_ := aC.mk (bA BK1.out hkp (fun h2_ => by have o_ := HORD.out; have t_ := HT.out; (try simp only [In2, Up, In, Ex, Exb] at h2_); omega)); have n8_ := aC.mk (bA BK2.out hkp (fun h2_ => by have o_ := HORD.out; have t_ := HT.out; (try simp only [In2, Up, In, Ex, Exb] at h2_); omega)); have n9_ := aC.mk (bA BK3.out hkp (fun h2_ => by have o_ := HORD.out; have t_ := HT.out; (try simp only [In2, Up, In, Ex, Exb] at h2_); omega)); have n10_ := aC.mk (hbn_); have n11_ := aC.mk (hbk_); have n12_ := aC.mk (hsz_); (try clear HF0_0); (try clear HF0_1); (try clear HF5); (try clear HS5); (try clear HF13); (try clear HS13); (try clear HF14); (try clear BK1); (try clear BK2); (try clear BK3); (try clear HB); (try clear BK15); (try clear HT); have HF0_0 := n0_; have HF0_1 := n1_; have HF5 := n2_; have HS5 := n3_; have HF13 := n4_; have HS13 := n5_; have HF14 := n6_; have BK1 := n7_; have BK2 := n8_; have BK3 := n9_; have HB := n10_; have BK15 := n11_; have HT := n12_; clear n0_ n1_ n2_ n3_ n4_ n5_ n6_ n7_ n8_ n9_ n10_ n11_ n12_; clear hw_ hkp hge_ hbn_ hbk_ hsz_; have hzgb1_0_16 : w16.cell? ⟨gb1, 0, none⟩ = some (.slice A0_0 l0_0.length c0_0) := (aD BK1.out 0).trans rfl; have hygb1_0_16 := aA BK1.out 0; have hzgb1_1_16 : w16.cell? ⟨gb1, 1, none⟩ = some (.slice (some ad14) l0_1.length c0_1) := (aD BK1.out 1).trans rfl; have hygb1_1_16 := aA BK1.out 1; have hzgb1_2_16 : w16.cell? ⟨gb1, 2, none⟩ = some (.int .i64 a0_2) := (aD BK1.out 2).trans rfl; have hygb1_2_16 := aA BK1.out 2; have hzgb1_3_16 : w16.cell? ⟨gb1, 3, none⟩ = some (.bool a0_3) := (aD BK1.out 3).trans rfl; have hygb1_3_16 := aA BK1.out 3; have hzgb2_0_16 : w16.cell? ⟨gb2, 0, none⟩ = some (.slice none 0 0) := (aD BK2.out 0).trans rfl; have hygb2_0_16 := aA BK2.out 0; have hzgb2_1_16 : w16.cell? ⟨gb2, 1, none⟩ = some (.slice none 0 0) := (aD BK2.out 1).trans rfl; have hygb2_1_16 := aA BK2.out 1; have hzgb2_2_16 : w16.cell? ⟨gb2, 2, none⟩ = some (.int .i64 0) := (aD BK2.out 2).trans rfl; have hygb2_2_16 := aA BK2.out 2; have hzgb2_3_16 : w16.cell? ⟨gb2, 3, none⟩ = some (.bool false) := (aD BK2.out 3).trans rfl; have hygb2_3_16 := aA BK2.out 3; have hzgb3_0_16 : w16.cell? ⟨gb3, 0, none⟩ = some (.slice A5 l0_0.length c5) := (aD BK3.out 0).trans rfl; have hygb3_0_16 := aA BK3.out 0; have hzgb3_1_16 : w16.cell? ⟨gb3, 1, none⟩ = some (.slice A13 xs13.length c13) := (aD BK3.out 1).trans rfl; have hygb3_1_16 := aA BK3.out 1; have hzgb3_2_16 : w16.cell? ⟨gb3, 2, none⟩ = some (.int .i64 a0_2) := (aD BK3.out 2).trans rfl; have hygb3_2_16 := aA BK3.out 2; have hzgb3_3_16 : w16.cell? ⟨gb3, 3, none⟩ = some (.bool a0_3) := (aD BK3.out 3).trans rfl; have hygb3_3_16 := aA BK3.out 3; have hzgb15_0_16 : w16.cell? ⟨gb15, 0, none⟩ = some (.int .i64 ((rdW l0_1 x13).f0)) := (aD BK15.out 0).trans rfl; have hygb15_0_16 := aA BK15.out 0; have hzgb15_1_16 : w16.cell? ⟨gb15, 1, none⟩ = some (.slice Ae14 ((rdW l0_1 x13).f1).length ce14) := (aD BK15.out 1).trans rfl; have hygb15_1_16 := aA BK15.out 1))
  have n_ := aC.mk (Kd.F_drew HF0_0.out)
  clear HF0_0
  have HF0_0 := n_
  clear n_
  have n_ := aC.mk (Kd.F_drew HF0_1.out)
  clear HF0_1
  have HF0_1 := n_
  clear n_
  have n_ := aC.mk (Kd.F_drew HF5.out)
  clear HF5
  have HF5 := n_
  clear n_
  have n_ := aC.mk (Kd.S_drew HS5.out)
  clear HS5
  have HS5 := n_
  clear n_
  have n_ := aC.mk (Kd.F_drew HF13.out)
  clear HF13
  have HF13 := n_
  clear n_
  have n_ := aC.mk (Kd.S_drew HS13.out)
  clear HS13
  have HS13 := n_
  clear n_
  have n_ := aC.mk (Kd.F_drew HF14.out)
  clear HF14
  have HF14 := n_
  clear n_
  have n_ := aC.mk (aQ BK1.out)
  clear BK1
  have BK1 := n_
  clear n_
  have n_ := aC.mk (aQ BK2.out)
  clear BK2
  have BK2 := n_
  clear n_
  have n_ := aC.mk (aQ BK3.out)
  clear BK3
  have BK3 := n_
  clear n_
  have n_ := aC.mk (aQ BK15.out)
  clear BK15
  have BK15 := n_
  clear n_
  have n_ := aC.mk (aH HB.out)
  clear HB
  have HB := n_
  clear n_
  have n_ := aC.mk (show _ ≤ w16.drew.heap.size from HT.out)
  clear HT
  have HT := n_
  clear n_
  refine start_ (n := 13) (S := fun w' => w'.cell? ⟨gb3, 0, none⟩ = some (.slice A5 l0_0.length c5) ∧ w'.cell? ⟨gb3, 1, none⟩ = some (.slice A13 xs13.length c13) ∧ w'.cell? ⟨gb3, 2, none⟩ = some (.int .i64 a0_2) ∧ w'.cell? ⟨gb3, 3, none⟩ = some (.bool a0_3) ∧ w'.cell? ⟨gb15, 0, none⟩ = some (.int .i64 ((rdW l0_1 x13).f0)) ∧ w'.cell? ⟨gb15, 1, none⟩ = some (.slice Ae14 ((rdW l0_1 x13).f1).length ce14)) (ds := [12]) #[false, false, false, false, false, false, false, false, false, false, false, false, false] (by kernel_rfl) rfl rfl ⟨(aD BK3.out 0).trans rfl, (aD BK3.out 1).trans rfl, (aD BK3.out 2).trans rfl, (aD BK3.out 3).trans rfl, (aD BK15.out 0).trans rfl, (aD BK15.out 1).trans rfl⟩ (fun hHeld => ?_)
  generalize w16.drew = w17 at HF0_0 HF0_1 HF5 HS5 HF13 HS13 HF14 BK1 BK2 BK3 BK15 HB HT hHeld ⊢
  refine pure_ (i := 0) (N := some 36) (v := ?_) (a' := ?_) #[true, false, false, false, false, false, false, false, false, false, false, false, false] rfl rfl (by kernel_rfl) (fun _ _ _ h => h) (Or.inl ⟨by rfl, ?_⟩) ?_ ?_
  rotate_left
  ·intro w'
   go_simp
   with_reducible rfl
  rotate_left
  ·simp only [Act.put, lA, lB, lC, bE, bF]
   rfl
  refine take_ (i := 1) (N := some 37) (v := ?_) (a' := ?_) #[true, true, false, false, false, false, false, false, false, false, false, false, false] rfl rfl (by kernel_rfl) (fun _ _ _ h => h) (Or.inl ⟨by rfl, ?_⟩) hHeld ?_ ?_
  rotate_left
  ·rintro w' ⟨s0, s1, s2, s3, s4, s5⟩
   go_simp
   with_reducible rfl
  rotate_left
  ·simp only [Act.put, lA, lB, lC, bE, bF]
   rfl
  refine pure_ (i := 2) (N := some 38) (v := ?_) (a' := ?_) #[true, true, true, false, false, false, false, false, false, false, false, false, false] rfl rfl (by kernel_rfl) (fun _ _ _ h => h) (Or.inl ⟨by rfl, ?_⟩) ?_ ?_
  rotate_left
  ·intro w'
   go_simp
   with_reducible rfl
  rotate_left
  ·simp only [Act.put, lA, lB, lC, bE, bF]
   rfl
  refine take_ (i := 3) (N := some 39) (v := ?_) (a' := ?_) #[true, true, true, true, false, false, false, false, false, false, false, false, false] rfl rfl (by kernel_rfl) (fun _ _ _ h => h) (Or.inl ⟨by rfl, ?_⟩) hHeld ?_ ?_
  rotate_left
  ·rintro w' ⟨s0, s1, s2, s3, s4, s5⟩
   go_simp
   with_reducible rfl
  rotate_left
  ·simp only [Act.put, lA, lB, lC, bE, bF]
   rfl
  refine pure_ (i := 4) (N := some 40) (v := ?_) (a' := ?_) #[true, true, true, true, true, false, false, false, false, false, false, false, false] rfl rfl (by kernel_rfl) (fun _ _ _ h => h) (Or.inl ⟨by rfl, ?_⟩) ?_ ?_
  rotate_left
  ·intro w'
   go_simp
   with_reducible rfl
  rotate_left
  ·simp only [Act.put, lA, lB, lC, bE, bF]
   rfl
  refine take_ (i := 5) (N := some 41) (v := ?_) (a' := ?_) #[true, true, true, true, true, true, false, false, false, false, false, false, false] rfl rfl (by kernel_rfl) (fun _ _ _ h => h) (Or.inl ⟨by rfl, ?_⟩) hHeld ?_ ?_
  rotate_left
  ·rintro w' ⟨s0, s1, s2, s3, s4, s5⟩
   go_simp
   with_reducible rfl
  rotate_left
  ·simp only [Act.put, lA, lB, lC, bE, bF]
   rfl
  refine one_ (i := 6) (N := some 42) #[true, true, true, true, true, true, true, false, false, false, false, false, false] rfl rfl (by kernel_rfl) (by decide) (fun K hK => ?_)
  refine Kd.N_lit_step (Kd.slice 5 (Kd.int .u8)) _ 37 ?hg (N' := 42) ?hd (xs := ([(rdW l0_1 x13).f1] : List (List (Int)))) (inner := [.slice Ae14 ((rdW l0_1 x13).f1).length ce14]) (ok := (fun k_ => (In 0 w.heap.size) k_ ∨ (gb15 + 1) ≤ k_)) (okp := (In 0 w.heap.size)) ?hr ?hp (fun _ hk => .inl hk) (.inr HT.out) (Below.refl _ _) (Nat.le_refl _) (by simp) ?_
  (case hd => rfl)
  (case hg => rfl)
  (case hr => first | (go_simp; done) | (go_simp; rfl))
  (case hp => exact (Reps.one (Kd.FK_slice_mk HC14.out HF14.out) (Reps.none _ _)))
  intro vl18 w18 ho_ hb hg_ hat_
  obtain ⟨A18, c18, ev_⟩ := Kd.N_slice ho_
  subst ev_
  have n0_ := aC.mk (Kd.aU HF0_0.out hb)
  have n1_ := aC.mk (Kd.aU HF0_1.out hb)
  have n2_ := aC.mk (Kd.aU HF5.out hb)
  have n3_ := aC.mk (Kd.bH HS5.out hb)
  have n4_ := aC.mk (Kd.aU HF13.out hb)
  have n5_ := aC.mk (Kd.bH HS13.out hb)
  have n6_ := aC.mk (Kd.aU HF14.out hb)
  have n7_ := aC.mk (aM BK1.out hb)
  have n8_ := aC.mk (aM BK2.out hb)
  have n9_ := aC.mk (aM BK3.out hb)
  have n10_ := aC.mk (aM BK15.out hb)
  have n11_ := aC.mk (aV HB.out hb)
  have n12_ := aC.mk (Nat.le_trans HT.out hb.size)
  have n13_ := aC.mk (Kd.N_F ho_)
  have n14_ := aC.mk ((Kd.N_reads' ho_).2.1)
  (try clear HF0_0)
  (try clear HF0_1)
  (try clear HF5)
  (try clear HS5)
  (try clear HF13)
  (try clear HS13)
  (try clear HF14)
  (try clear BK1)
  (try clear BK2)
  (try clear BK3)
  (try clear BK15)
  (try clear HB)
  (try clear HT)
  (try clear HF18)
  (try clear HC18)
  have HF0_0 := n0_
  have HF0_1 := n1_
  have HF5 := n2_
  have HS5 := n3_
  have HF13 := n4_
  have HS13 := n5_
  have HF14 := n6_
  have BK1 := n7_
  have BK2 := n8_
  have BK3 := n9_
  have BK15 := n10_
  have HB := n11_
  have HT := n12_
  have HF18 := n13_
  have HC18 := n14_
  clear n0_ n1_ n2_ n3_ n4_ n5_ n6_ n7_ n8_ n9_ n10_ n11_ n12_ n13_ n14_
  clear hb ho_ hg_ hat_
  refine hK.out _ _ ⟨(aD BK3.out 0).trans rfl, (aD BK3.out 1).trans rfl, (aD BK3.out 2).trans rfl, (aD BK3.out 3).trans rfl, (aD BK15.out 0).trans rfl, (aD BK15.out 1).trans rfl⟩ (fun hHeld => ?_)
  clear hK K
  refine norm_ (a' := ?_) ?_ ?_
  rotate_left
  ·show Act.put _ (some 42) _ = _
   simp only [Act.put, lA, lB, lC, bE, bF]
   rfl
  refine one_ (i := 7) (N := some 43) #[true, true, true, true, true, true, true, true, false, false, false, false, false] rfl rfl (by kernel_rfl) (by decide) (fun K hK => ?_)
  obtain ⟨kj20, hj_⟩ := joined1 ((rdW l0_1 x13).f1) (by first | exact getS_len hok0 _ | exact getW_len hok1 _)
  have J20 := aC.mk hj_
  clear hj_
  refine goes_ Try.func55 (by kernel_rfl) rfl #[.slice A18 (([(rdW l0_1 x13).f1] : List (List (Int)))).length c18] (by rfl) rfl rfl (by (try simp only [List.map_toArray, List.map_cons, List.map_nil]); first | done | rfl | (simp only [List.length_drop, List.length_take]; rfl)) ?_
  (with_reducible refine (impl_joined.calls kj20 _ _ (([(rdW l0_1 x13).f1] : List (List (Int)))) ((rdW l0_1 x13).f1) _ ?s1 ?s2 J20.out).mono ?_)
  (case s1 => exact (Kd.F_now HF18.out))
  (case s2 => exact HC18.out)
  rintro e_ w19 ⟨v0_, rfl, ho0, hb⟩
  refine ⟨_, rfl, ?_⟩
  obtain ⟨lo19, hi19, el_, eh_, ol_, oh_⟩ := Mem.times HT.out hb
  (try rw [← el_] at ho0)
  obtain ⟨A19_0, c19_0, ev_, hc0_, hf0_, hs0_⟩ := Mem.new_R ho0 eh_
  subst ev_
  have n0_ := aC.mk (Kd.aU HF0_0.out hb)
  have n1_ := aC.mk (Kd.aU HF0_1.out hb)
  have n2_ := aC.mk (Kd.aU HF5.out hb)
  have n3_ := aC.mk (Kd.bH HS5.out hb)
  have n4_ := aC.mk (Kd.aU HF13.out hb)
  have n5_ := aC.mk (Kd.bH HS13.out hb)
  have n6_ := aC.mk (Kd.aU HF14.out hb)
  have n7_ := aC.mk (Kd.aU HF18.out hb)
  have n8_ := aC.mk (aM BK1.out hb)
  have n9_ := aC.mk (aM BK2.out hb)
  have n10_ := aC.mk (aM BK3.out hb)
  have n11_ := aC.mk (aM BK15.out hb)
  have n12_ := aC.mk (aV HB.out hb)
  have n13_ := aC.mk (hf0_)
  have n14_ := aC.mk (hc0_)
  have n15_ := aC.mk (hs0_)
  have n16_ := aC.mk (And.intro HORD.out (And.intro ol_ oh_))
  have n17_ := aC.mk (Nat.le_of_eq eh_)
  (try clear HF0_0)
  (try clear HF0_1)
  (try clear HF5)
  (try clear HS5)
  (try clear HF13)
  (try clear HS13)
  (try clear HF14)
  (try clear HF18)
  (try clear BK1)
  (try clear BK2)
  (try clear BK3)
  (try clear BK15)
  (try clear HB)
  (try clear HF19_0)
  (try clear HC19_0)
  (try clear HS19_0)
  (try clear HORD)
  (try clear HT)
  have HF0_0 := n0_
  have HF0_1 := n1_
  have HF5 := n2_
  have HS5 := n3_
  have HF13 := n4_
  have HS13 := n5_
  have HF14 := n6_
  have HF18 := n7_
  have BK1 := n8_
  have BK2 := n9_
  have BK3 := n10_
  have BK15 := n11_
  have HB := n12_
  have HF19_0 := n13_
  have HC19_0 := n14_
  have HS19_0 := n15_
  have HORD := n16_
  have HT := n17_
  clear n0_ n1_ n2_ n3_ n4_ n5_ n6_ n7_ n8_ n9_ n10_ n11_ n12_ n13_ n14_ n15_ n16_ n17_
  clear ol_ oh_ el_ eh_ ho0 hf0_ hc0_ hs0_
  (try clear hb)
  refine hK.out _ _ ⟨(aD BK3.out 0).trans rfl, (aD BK3.out 1).trans rfl, (aD BK3.out 2).trans rfl, (aD BK3.out 3).trans rfl, (aD BK15.out 0).trans rfl, (aD BK15.out 1).trans rfl⟩ (fun hHeld => ?_)
  clear hK K
  refine norm_ (a' := ?_) ?_ ?_
  rotate_left
  ·show Act.put _ (some 43) _ = _
   simp only [Act.put, lA, lB, lC, bE, bF]
   rfl
  refine pure_ (i := 8) (N := some 44) (v := ?_) (a' := ?_) #[true, true, true, true, true, true, true, true, true, false, false, false, false] rfl rfl (by kernel_rfl) (fun _ _ _ h => h) (Or.inl ⟨by rfl, ?_⟩) ?_ ?_
  rotate_left
  ·intro w'
   go_simp
   with_reducible rfl
  rotate_left
  ·simp only [Act.put, lA, lB, lC, bE, bF]
   rfl
  refine one_ (i := 9) (N := some 45) #[true, true, true, true, true, true, true, true, true, true, false, false, false] rfl rfl (by kernel_rfl) (by decide) (fun K hK => ?_)
  refine value_ (w1 := ?_) (v := ?_) (by rfl) rfl ?_ ?_
  rotate_left 2
  ·go_simp
   constructor
   ·rfl
   ·rfl
  refine hK.out _ _ ⟨(aD (aN BK3.out _) 0).trans rfl, (aD (aN BK3.out _) 1).trans rfl, (aD (aN BK3.out _) 2).trans rfl, (aD (aN BK3.out _) 3).trans rfl, (aD (aN BK15.out _) 0).trans rfl, (aD (aN BK15.out _) 1).trans rfl⟩ (fun hHeld => ?_)
  clear hK K
  refine norm_ (a' := ?_) ?_ ?_
  rotate_left
  ·show Act.put _ (some 45) _ = _
   simp only [Act.put, lA, lB, lC, bE, bF]
   rfl
  refine one_ (i := 10) (N := some 46) #[true, true, true, true, true, true, true, true, true, true, true, false, false] rfl rfl (by kernel_rfl) (by decide) (fun K hK => ?_)
  refine Kd.S_append_step k50 (w0 := w) w.heap.size (by rfl) (.tmp 37) (.tmp 45) 23 50 (.agg #[.int .i64 0, .slice none 0 0]) 32 rfl Try.underlying23 info50 rfl (by decide) (by omega) (.slice A13 xs13.length c13) xs13 ((⟨(rdW l0_1 x13).f0, (rdW l0_1 x13).f1⟩ : S50)) [.int .i64 ((rdW l0_1 x13).f0), .slice A19_0 ((rdW l0_1 x13).f1).length c19_0] (Up 0 0 hi5) (In lo19 hi19) rfl rfl ?aP ?aK ?aF ?aO ?aB ?aS ?aL ?_
  (case aB => exact HB.out)
  (case aS => exact aW HB.out)
  (case aP => exact k50_mkM _ _ _ _ (Kd.R_lower HS19_0.out (by have o_ := HORD.out; have t_ := HT.out; (try simp only [In2, Up, In, Ex, Exb] at *); omega)))
  (case aK => exact (fun k_ hk_ => ⟨(by have o_ := HORD.out; have t_ := HT.out; (try simp only [In2, Up, In, Ex, Exb] at hk_ ⊢); omega), (fun he_ => by have hz_ := (Kd.S_R HS13.out).1 k_ he_.symm; have o_ := HORD.out; have t_ := HT.out; (try simp only [In2, Up, In, Ex, Exb] at hk_ hz_); omega)⟩))
  (case aF => exact (fun k_ hk_ => by have o_ := HORD.out; have t_ := HT.out; (try simp only [In2, Up, In, Ex, Exb] at hk_ ⊢); omega))
  (case aO => exact Kd.S_mono (Kd.S_lower HS13.out (by have o_ := HORD.out; omega)) (fun k_ hk_ => ⟨(by have o_ := HORD.out; have t_ := HT.out; (try simp only [In2, Up, In, Ex, Exb] at hk_ ⊢); omega), (fun h2_ => by have o_ := HORD.out; have t_ := HT.out; (try simp only [In2, Up, In, Ex, Exb] at hk_ h2_); omega)⟩))
  (case aL => (have hl1_ := okWrS_len hok1; have h3_ := congrArg List.length HX13.out; rw [List.length_take] at h3_; omega))
  intro v21 w21 ho_ hbn_ hg_ hat_
  obtain ⟨ys21, ey_⟩ : ∃ y_, y_ = xs13 ++ [(⟨(rdW l0_1 x13).f0, (rdW l0_1 x13).f1⟩ : S50)] := ⟨_, rfl⟩
  rw [← ey_] at ho_
  have HY21 := aC.mk ey_
  clear ey_
  have hkp := kept_grown (S := (In2 0 0 hi5 hi13)) hg_ (fun k_ he_ => (Kd.S_R HS13.out).1 k_ he_)
  obtain ⟨A21, c21, ev_⟩ := Kd.S_slice ho_
  subst ev_
  obtain ⟨hi21, e2_⟩ : ∃ n_, n_ = w21.heap.size := ⟨_, rfl⟩
  have ol_ : hi19 ≤ hi21 := (by rw [e2_]; exact Nat.le_trans HT.out hkp.1)
  have hs_ := Kd.S_mono (ok' := In2 0 0 hi5 hi21) (Kd.S_bound ho_) (fun k_ hk_ => by have h1_ := hk_.1; have h2_ := hk_.2.2.1; rw [← e2_] at h2_; (try simp only [In2, Up, In, Ex, Exb] at h1_ ⊢); omega)
  have n0_ := aC.mk (Kd.aZ HF0_0.out hkp (fun k_ h1_ h2_ => by have o_ := HORD.out; have t_ := HT.out; (try simp only [In2, Up, In, Ex, Exb] at h1_ h2_); omega))
  have n1_ := aC.mk (Kd.aZ HF0_1.out hkp (fun k_ h1_ h2_ => by have o_ := HORD.out; have t_ := HT.out; (try simp only [In2, Up, In, Ex, Exb] at h1_ h2_); omega))
  have n2_ := aC.mk (Kd.aZ HF5.out hkp (fun k_ h1_ h2_ => by have o_ := HORD.out; have t_ := HT.out; (try simp only [In2, Up, In, Ex, Exb] at h1_ h2_); omega))
  have n3_ := aC.mk (Kd.S_kept HS5.out hkp (fun k_ h1_ h2_ => by have o_ := HORD.out; have t_ := HT.out; (try simp only [In2, Up, In, Ex, Exb] at h1_ h2_); omega))
  have n4_ := aC.mk (Kd.aZ HF14.out hkp (fun k_ h1_ h2_ => by have o_ := HORD.out; have t_ := HT.out; (try simp only [In2, Up, In, Ex, Exb] at h1_ h2_); omega))
  have n5_ := aC.mk (bA BK1.out hkp (fun h2_ => by have o_ := HORD.out; have t_ := HT.out; (try simp only [In2, Up, In, Ex, Exb] at h2_); omega))
  have n6_ := aC.mk (bA BK2.out hkp (fun h2_ => by have o_ := HORD.out; have t_ := HT.out; (try simp only [In2, Up, In, Ex, Exb] at h2_); omega))
  have n7_ := aC.mk (bA BK3.out hkp (fun h2_ => by have o_ := HORD.out; have t_ := HT.out; (try simp only [In2, Up, In, Ex, Exb] at h2_); omega))
  have n8_ := aC.mk (bA BK15.out hkp (fun h2_ => by have o_ := HORD.out; have t_ := HT.out; (try simp only [In2, Up, In, Ex, Exb] at h2_); omega))
  have n9_ := aC.mk (hbn_)
  have n10_ := aC.mk (And.intro HORD.out ol_)
  have n11_ := aC.mk (Nat.le_of_eq e2_)
  have n12_ := aC.mk (hs_)
  have n13_ := aC.mk (Kd.S_F hs_)
  have n14_ := aC.mk ((Kd.S_reads' hs_).2.1)
  (try clear HF0_0)
  (try clear HF0_1)
  (try clear HF5)
  (try clear HS5)
  (try clear HF14)
  (try clear BK1)
  (try clear BK2)
  (try clear BK3)
  (try clear BK15)
  (try clear HB)
  (try clear HORD)
  (try clear HT)
  (try clear HS21)
  (try clear HF21)
  (try clear HC21)
  have HF0_0 := n0_
  have HF0_1 := n1_
  have HF5 := n2_
  have HS5 := n3_
  have HF14 := n4_
  have BK1 := n5_
  have BK2 := n6_
  have BK3 := n7_
  have BK15 := n8_
  have HB := n9_
  have HORD := n10_
  have HT := n11_
  have HS21 := n12_
  have HF21 := n13_
  have HC21 := n14_
  clear n0_ n1_ n2_ n3_ n4_ n5_ n6_ n7_ n8_ n9_ n10_ n11_ n12_ n13_ n14_
  clear hs_ ho_ hbn_ hg_ hat_ hkp ol_ e2_
  refine hK.out _ _ ⟨(aD BK3.out 0).trans rfl, (aD BK3.out 1).trans rfl, (aD BK3.out 2).trans rfl, (aD BK3.out 3).trans rfl, (aD BK15.out 0).trans rfl, (aD BK15.out 1).trans rfl⟩ (fun hHeld => ?_)
  clear hK K
  refine norm_ (a' := ?_) ?_ ?_
  rotate_left
  ·show Act.put _ (some 46) _ = _
   simp only [Act.put, lA, lB, lC, bE, bF]
   rfl
  refine pure_ (i := 11) (N := some 47) (v := ?_) (a' := ?_) #[true, true, true, true, true, true, true, true, true, true, true, true, false] rfl rfl (by kernel_rfl) (fun _ _ _ h => h) (Or.inl ⟨by rfl, ?_⟩) ?_ ?_
  rotate_left
  ·intro w'
   go_simp
   with_reducible rfl
  rotate_left
  ·simp only [Act.put, lA, lB, lC, bE, bF]
   rfl
  refine last_ (i := 12) (N := none) #[true, true, true, true, true, true, true, true, true, true, true, true, true] rfl rfl (by kernel_rfl) (by decide) (fun K hK => ?_)
  have hzgb1_0_22 : w21.cell? ⟨gb1, 0, none⟩ = some (.slice A0_0 l0_0.length c0_0) := (aD BK1.out 0).trans rfl
  have hygb1_0_22 := aA BK1.out 0
  have hzgb1_1_22 : w21.cell? ⟨gb1, 1, none⟩ = some (.slice (some ad14) l0_1.length c0_1) := (aD BK1.out 1).trans rfl
  have hygb1_1_22 := aA BK1.out 1
  have hzgb1_2_22 : w21.cell? ⟨gb1, 2, none⟩ = some (.int .i64 a0_2) := (aD BK1.out 2).trans rfl
  have hygb1_2_22 := aA BK1.out 2
  have hzgb1_3_22 : w21.cell? ⟨gb1, 3, none⟩ = some (.bool a0_3) := (aD BK1.out 3).trans rfl
  have hygb1_3_22 := aA BK1.out 3
  have hzgb2_0_22 : w21.cell? ⟨gb2, 0, none⟩ = some (.slice none 0 0) := (aD BK2.out 0).trans rfl
  have hygb2_0_22 := aA BK2.out 0
  have hzgb2_1_22 : w21.cell? ⟨gb2, 1, none⟩ = some (.slice none 0 0) := (aD BK2.out 1).trans rfl
  have hygb2_1_22 := aA BK2.out 1
  have hzgb2_2_22 : w21.cell? ⟨gb2, 2, none⟩ = some (.int .i64 0) := (aD BK2.out 2).trans rfl
  have hygb2_2_22 := aA BK2.out 2
  have hzgb2_3_22 : w21.cell? ⟨gb2, 3, none⟩ = some (.bool false) := (aD BK2.out 3).trans rfl
  have hygb2_3_22 := aA BK2.out 3
  have hzgb3_0_22 : w21.cell? ⟨gb3, 0, none⟩ = some (.slice A5 l0_0.length c5) := (aD BK3.out 0).trans rfl
  have hygb3_0_22 := aA BK3.out 0
  have hzgb3_1_22 : w21.cell? ⟨gb3, 1, none⟩ = some (.slice A13 xs13.length c13) := (aD BK3.out 1).trans rfl
  have hygb3_1_22 := aA BK3.out 1
  have hzgb3_2_22 : w21.cell? ⟨gb3, 2, none⟩ = some (.int .i64 a0_2) := (aD BK3.out 2).trans rfl
  have hygb3_2_22 := aA BK3.out 2
  have hzgb3_3_22 : w21.cell? ⟨gb3, 3, none⟩ = some (.bool a0_3) := (aD BK3.out 3).trans rfl
  have hygb3_3_22 := aA BK3.out 3
  have hzgb15_0_22 : w21.cell? ⟨gb15, 0, none⟩ = some (.int .i64 ((rdW l0_1 x13).f0)) := (aD BK15.out 0).trans rfl
  have hygb15_0_22 := aA BK15.out 0
  have hzgb15_1_22 : w21.cell? ⟨gb15, 1, none⟩ = some (.slice Ae14 ((rdW l0_1 x13).f1).length ce14) := (aD BK15.out 1).trans rfl
  have hygb15_1_22 := aA BK15.out 1
  have hge_ : w.heap.size ≤ gb3 := (by have o_ := HORD.out; omega)
  refine skip_ (w1 := ?_) (by rfl) rfl ?_ ?_
  rotate_left
  ·go_simp
   rfl
  refine hK.out _ _ ?_
  clear hK K
  refine done_ (by kernel_rfl) ?_
  obtain ⟨w22, hw_⟩ : ∃ z_, z_ = (w21.setCell ⟨gb3, 1, none⟩ (.slice A21 ys21.length c21)) := ⟨_, rfl⟩
  (try rw [← hw_])
  have hkp : Kept w21 w22 (fun k_ => k_ = gb3) := (by rw [hw_]; exact Kept.setCell (Kept.refl w21 (fun k_ => k_ = gb3)) (.inl rfl) (.slice A21 ys21.length c21))
  have hbn_ : Below w.heap.size w w22 := (by rw [hw_]; exact aG (HB.out) hge_)
  have hbk_ : w22.heap[gb3]? = some (.cells #[.slice A5 l0_0.length c5, .slice A21 ys21.length c21, .int .i64 a0_2, .bool a0_3] 25 (0, 0)) := (by rw [hw_]; exact aX (cs := #[.slice A5 l0_0.length c5, .slice A13 xs13.length c13, .int .i64 a0_2, .bool a0_3]) (cs' := #[.slice A5 l0_0.length c5, .slice A21 ys21.length c21, .int .i64 a0_2, .bool a0_3]) (BK3.out) 1 _ rfl)
  have hsz_ : hi21 ≤ w22.heap.size := Nat.le_trans HT.out hkp.1
  have n0_ := aC.mk (Kd.aZ HF0_0.out hkp (fun k_ h1_ h2_ => by have o_ := HORD.out; have t_ := HT.out; (try simp only [In2, Up, In, Ex, Exb] at h1_ h2_); omega))
  have n1_ := aC.mk (Kd.aZ HF0_1.out hkp (fun k_ h1_ h2_ => by have o_ := HORD.out; have t_ := HT.out; (try simp only [In2, Up, In, Ex, Exb] at h1_ h2_); omega))
  have n2_ := aC.mk (Kd.aZ HF5.out hkp (fun k_ h1_ h2_ => by have o_ := HORD.out; have t_ := HT.out; (try simp only [In2, Up, In, Ex, Exb] at h1_ h2_); omega))
  have n3_ := aC.mk (Kd.S_kept HS5.out hkp (fun k_ h1_ h2_ => by have o_ := HORD.out; have t_ := HT.out; (try simp only [In2, Up, In, Ex, Exb] at h1_ h2_); omega))
  have n4_ := aC.mk (Kd.aZ HF14.out hkp (fun k_ h1_ h2_ => by have o_ := HORD.out; have t_ := HT.out; (try simp only [In2, Up, In, Ex, Exb] at h1_ h2_); omega))
  have n5_ := aC.mk (Kd.aZ HF21.out hkp (fun k_ h1_ h2_ => by have o_ := HORD.out; have t_ := HT.out; (try simp only [In2, Up, In, Ex, Exb] at h1_ h2_); omega))
  have n6_ := aC.mk (Kd.S_kept HS21.out hkp (fun k_ h1_ h2_ => by have o_ := HORD.out; have t_ := HT.out; (try simp only [In2, Up, In, Ex, Exb] at h1_ h2_); omega))
  have n7_ := aC.mk (bA BK1.out hkp (fun h2_ => by have o_ := HORD.out; have t_ := HT.out; (try simp only [In2, Up, In, Ex, Exb] at h2_); omega))
  have n8_ := aC.mk (bA BK2.out hkp (fun h2_ => by have o_ := HORD.out; have t_ := HT.out; (try simp only [In2, Up, In, Ex, Exb] at h2_); omega))
  have n9_ := aC.mk (bA BK15.out hkp (fun h2_ => by have o_ := HORD.out; have t_ := HT.out; (try simp only [In2, Up, In, Ex, Exb] at h2_); omega))
  have n10_ := aC.mk (hbn_)
  have n11_ := aC.mk (hbk_)
  have n12_ := aC.mk (hsz_)
  (try clear HF0_0)
  (try clear HF0_1)
  (try clear HF5)
  (try clear HS5)
  (try clear HF14)
  (try clear HF21)
  (try clear HS21)
  (try clear BK1)
  (try clear BK2)
  (try clear BK15)
  (try clear HB)
  (try clear BK3)
  (try clear HT)
  have HF0_0 := n0_
  have HF0_1 := n1_
  have HF5 := n2_
  have HS5 := n3_
  have HF14 := n4_
  have HF21 := n5_
  have HS21 := n6_
  have BK1 := n7_
  have BK2 := n8_
  have BK15 := n9_
  have HB := n10_
  have BK3 := n11_
  have HT := n12_
  clear n0_ n1_ n2_ n3_ n4_ n5_ n6_ n7_ n8_ n9_ n10_ n11_ n12_
  clear hw_ hkp hge_ hbn_ hbk_ hsz_
  have hzgb1_0_22 : w22.cell? ⟨gb1, 0, none⟩ = some (.slice A0_0 l0_0.length c0_0) := (aD BK1.out 0).trans rfl
  have hygb1_0_22 := aA BK1.out 0
  have hzgb1_1_22 : w22.cell? ⟨gb1, 1, none⟩ = some (.slice (some ad14) l0_1.length c0_1) := (aD BK1.out 1).trans rfl
  have hygb1_1_22 := aA BK1.out 1
  have hzgb1_2_22 : w22.cell? ⟨gb1, 2, none⟩ = some (.int .i64 a0_2) := (aD BK1.out 2).trans rfl
  have hygb1_2_22 := aA BK1.out 2
  have hzgb1_3_22 : w22.cell? ⟨gb1, 3, none⟩ = some (.bool a0_3) := (aD BK1.out 3).trans rfl
  have hygb1_3_22 := aA BK1.out 3
  have hzgb2_0_22 : w22.cell? ⟨gb2, 0, none⟩ = some (.slice none 0 0) := (aD BK2.out 0).trans rfl
  have hygb2_0_22 := aA BK2.out 0
  have hzgb2_1_22 : w22.cell? ⟨gb2, 1, none⟩ = some (.slice none 0 0) := (aD BK2.out 1).trans rfl
  have hygb2_1_22 := aA BK2.out 1
  have hzgb2_2_22 : w22.cell? ⟨gb2, 2, none⟩ = some (.int .i64 0) := (aD BK2.out 2).trans rfl
  have hygb2_2_22 := aA BK2.out 2
  have hzgb2_3_22 : w22.cell? ⟨gb2, 3, none⟩ = some (.bool false) := (aD BK2.out 3).trans rfl
  have hygb2_3_22 := aA BK2.out 3
  have hzgb3_0_22 : w22.cell? ⟨gb3, 0, none⟩ = some (.slice A5 l0_0.length c5) := (aD BK3.out 0).trans rfl
  have hygb3_0_22 := aA BK3.out 0
  have hzgb3_1_22 : w22.cell? ⟨gb3, 1, none⟩ = some (.slice A21 ys21.length c21) := (aD BK3.out 1).trans rfl
  have hygb3_1_22 := aA BK3.out 1
  have hzgb3_2_22 : w22.cell? ⟨gb3, 2, none⟩ = some (.int .i64 a0_2) := (aD BK3.out 2).trans rfl
  have hygb3_2_22 := aA BK3.out 2
  have hzgb3_3_22 : w22.cell? ⟨gb3, 3, none⟩ = some (.bool a0_3) := (aD BK3.out 3).trans rfl
  have hygb3_3_22 := aA BK3.out 3
  have hzgb15_0_22 : w22.cell? ⟨gb15, 0, none⟩ = some (.int .i64 ((rdW l0_1 x13).f0)) := (aD BK15.out 0).trans rfl
  have hygb15_0_22 := aA BK15.out 0
  have hzgb15_1_22 : w22.cell? ⟨gb15, 1, none⟩ = some (.slice Ae14 ((rdW l0_1 x13).f1).length ce14) := (aD BK15.out 1).trans rfl
  have hygb15_1_22 := aA BK15.out 1
  try go_wp2
  go_roundg k1
  case measure => omega
  case rel => exact ⟨i13 + 1, _, _, rfl, ⟨show _ = ((i13 + 1 : Nat) : Int) by have := HI13.out; have hm_ := Kd.F_max HF0_1.out; have := HK13.out; first | (rw [w64 (by omega) (by omega)]; omega) | omega⟩, ⟨by have := HK13.out; omega⟩, ⟨Nat.le_trans (by have o_ := HORD.out; omega) HT.out⟩, ⟨by rw [show l0_1.take (i13 + 1) = ys21 from (by rw [HY21.out, HX13.out]; unfold rdW; rw [show x13.toNat = i13 from by have := HI13.out; omega]; exact take_getD _ _ z50 (by have := HK13.out; omega))]; exact Kd.S_mono (Kd.S_lower HS21.out (by have o_ := HORD.out; omega)) (fun k_ hk_ => by have o_ := HORD.out; have t_ := HT.out; (try simp only [In2, Up, In, Ex, Exb] at hk_ ⊢); omega)⟩, HF0_0, HF0_1, HF5, HS5, BK1, BK2, BK3, HB⟩
 have hi0_ : i13 = l0_1.length := (by have := HK13.out; omega)
 have hd_ : decide (x13 < (l0_1.length : Int)) = false := decide_eq_false (by have := HI13.out; omega)
 have eall_ : xs13 = l0_1 := (by rw [HX13.out, hi0_, List.take_length])
 rw [eall_] at HS13 HF13 HC13 BK3
 have hzgb1_0_22 : wr.cell? ⟨gb1, 0, none⟩ = some (.slice A0_0 l0_0.length c0_0) := (aD BK1.out 0).trans rfl
 have hygb1_0_22 := aA BK1.out 0
 have hzgb1_1_22 : wr.cell? ⟨gb1, 1, none⟩ = some (.slice A0_1 l0_1.length c0_1) := (aD BK1.out 1).trans rfl
 have hygb1_1_22 := aA BK1.out 1
 have hzgb1_2_22 : wr.cell? ⟨gb1, 2, none⟩ = some (.int .i64 a0_2) := (aD BK1.out 2).trans rfl
 have hygb1_2_22 := aA BK1.out 2
 have hzgb1_3_22 : wr.cell? ⟨gb1, 3, none⟩ = some (.bool a0_3) := (aD BK1.out 3).trans rfl
 have hygb1_3_22 := aA BK1.out 3
 have hzgb2_0_22 : wr.cell? ⟨gb2, 0, none⟩ = some (.slice none 0 0) := (aD BK2.out 0).trans rfl
 have hygb2_0_22 := aA BK2.out 0
 have hzgb2_1_22 : wr.cell? ⟨gb2, 1, none⟩ = some (.slice none 0 0) := (aD BK2.out 1).trans rfl
 have hygb2_1_22 := aA BK2.out 1
 have hzgb2_2_22 : wr.cell? ⟨gb2, 2, none⟩ = some (.int .i64 0) := (aD BK2.out 2).trans rfl
 have hygb2_2_22 := aA BK2.out 2
 have hzgb2_3_22 : wr.cell? ⟨gb2, 3, none⟩ = some (.bool false) := (aD BK2.out 3).trans rfl
 have hygb2_3_22 := aA BK2.out 3
 have hzgb3_0_22 : wr.cell? ⟨gb3, 0, none⟩ = some (.slice A5 l0_0.length c5) := (aD BK3.out 0).trans rfl
 have hygb3_0_22 := aA BK3.out 0
 have hzgb3_1_22 : wr.cell? ⟨gb3, 1, none⟩ = some (.slice A13 l0_1.length c13) := (aD BK3.out 1).trans rfl
 have hygb3_1_22 := aA BK3.out 1
 have hzgb3_2_22 : wr.cell? ⟨gb3, 2, none⟩ = some (.int .i64 a0_2) := (aD BK3.out 2).trans rfl
 have hygb3_2_22 := aA BK3.out 2
 have hzgb3_3_22 : wr.cell? ⟨gb3, 3, none⟩ = some (.bool a0_3) := (aD BK3.out 3).trans rfl
 have hygb3_3_22 := aA BK3.out 3
 go_wp2_with (first | ((with_reducible refine bP (t := 25) (p := 2) rfl ?_); refine bK (t := 25) (p := 2) (v := ?vo_w23) (w1 := ((((wr.setCell ⟨gb2, 0, none⟩ (.slice A5 l0_0.length c5)).setCell ⟨gb2, 1, none⟩ (.slice A13 l0_1.length c13)).setCell ⟨gb2, 2, none⟩ (.int .i64 a0_2)).setCell ⟨gb2, 3, none⟩ (.bool a0_3))) ?hg ?ho ?hn ?hr ?_; (case ho => rfl); (case hg => rfl); (case hn => rfl); (case hr => first | (go_simp; done) | (go_simp; rfl)); intro w23 hw_; have hkp : Kept wr w23 (fun k_ => k_ = gb2) := (by rw [hw_]; exact Kept.setCell (Kept.setCell (Kept.setCell (Kept.setCell (Kept.refl wr (fun k_ => k_ = gb2)) (.inl rfl) (.slice A5 l0_0.length c5)) (.inl rfl) (.slice A13 l0_1.length c13)) (.inl rfl) (.int .i64 a0_2)) (.inl rfl) (.bool a0_3)); have hge_ : w.heap.size ≤ gb2 := (by have o_ := HORD.out; (try unfold In at *); (try show _ ≠ _); omega); have hbn_ : Below w.heap.size w w23 := (by rw [hw_]; exact aG (aG (aG (aG (HB.out) hge_) hge_) hge_) hge_); have hbk_ : w23.heap[gb2]? = some (.cells #[.slice A5 l0_0.length c5, .slice A13 l0_1.length c13, .int .i64 a0_2, .bool a0_3] 25 (0, 0)) := (by rw [hw_]; exact aX (cs := #[.slice A5 l0_0.length c5, .slice A13 l0_1.length c13, .int .i64 a0_2, .bool false]) (cs' := #[.slice A5 l0_0.length c5, .slice A13 l0_1.length c13, .int .i64 a0_2, .bool a0_3]) (aX (cs := #[.slice A5 l0_0.length c5, .slice A13 l0_1.length c13, .int .i64 0, .bool false]) (cs' := #[.slice A5 l0_0.length c5, .slice A13 l0_1.length c13, .int .i64 a0_2, .bool false]) (aX (cs := #[.slice A5 l0_0.length c5, .slice none 0 0, .int .i64 0, .bool false]) (cs' := #[.slice A5 l0_0.length c5, .slice A13 l0_1.length c13, .int .i64 0, .bool false]) (aX (cs := #[.slice none 0 0, .slice none 0 0, .int .i64 0, .bool false]) (cs' := #[.slice A5 l0_0.length c5, .slice none 0 0, .int .i64 0, .bool false]) (BK2.out) 0 _ rfl) 1 _ rfl) 2 _ rfl) 3 _ rfl); have hsz_ : hi13 ≤ w23.heap.size := Nat.le_trans HT.out hkp.1; have n0_ := aC.mk (Kd.aZ HF0_0.out hkp (fun k_ h1_ h2_ => by have o_ := HORD.out; have t_ := HT.out; (try simp only [In2, Up, In, Ex, Exb] at h1_ h2_); omega)); have n1_ := aC.mk (Kd.aZ HF0_1.out hkp (fun k_ h1_ h2_ => by have o_ := HORD.out; have t_ := HT.out; (try simp only [In2, Up, In, Ex, Exb] at h1_ h2_); omega)); have n2_ := aC.mk (Kd.aZ HF5.out hkp (fun k_ h1_ h2_ => by have o_ := HORD.out; have t_ := HT.out; (try simp only [In2, Up, In, Ex, Exb] at h1_ h2_); omega)); have n3_ := aC.mk (Kd.S_kept HS5.out hkp (fun k_ h1_ h2_ => by have o_ := HORD.out; have t_ := HT.out; (try simp only [In2, Up, In, Ex, Exb] at h1_ h2_); omega)); have n4_ := aC.mk (Kd.aZ HF13.out hkp (fun k_ h1_ h2_ => by have o_ := HORD.out; have t_ := HT.out; (try simp only [In2, Up, In, Ex, Exb] at h1_ h2_); omega)); have n5_ := aC.mk (Kd.S_kept HS13.out hkp (fun k_ h1_ h2_ => by have o_ := HORD.out; have t_ := HT.out; (try simp only [In2, Up, In, Ex, Exb] at h1_ h2_); omega)); have n6_ := aC.mk (bA BK1.out hkp (fun h2_ => by have o_ := HORD.out; have t_ := HT.out; (try simp only [In2, Up, In, Ex, Exb] at h2_); omega)); have n7_ := aC.mk (bA BK3.out hkp (fun h2_ => by have o_ := HORD.out; have t_ := HT.out; (try simp only [In2, Up, In, Ex, Exb] at h2_); omega)); have n8_ := aC.mk (hbn_); have n9_ := aC.mk (hbk_); have n10_ := aC.mk (hsz_); (try clear HF0_0); (try clear HF0_1); (try clear HF5); (try clear HS5); (try clear HF13); (try clear HS13); (try clear BK1); (try clear BK3); (try clear HB); (try clear BK2); (try clear HT); have HF0_0 := n0_; have HF0_1 := n1_; have HF5 := n2_; have HS5 := n3_; have HF13 := n4_; have HS13 := n5_; have BK1 := n6_; have BK3 := n7_; have HB := n8_; have BK2 := n9_; have HT := n10_; clear n0_ n1_ n2_ n3_ n4_ n5_ n6_ n7_ n8_ n9_ n10_; clear hw_ hkp hge_ hbn_ hbk_ hsz_; have hzgb1_0_23 : w23.cell? ⟨gb1, 0, none⟩ = some (.slice A0_0 l0_0.length c0_0) := (aD BK1.out 0).trans rfl; have hygb1_0_23 := aA BK1.out 0; have hzgb1_1_23 : w23.cell? ⟨gb1, 1, none⟩ = some (.slice A0_1 l0_1.length c0_1) := (aD BK1.out 1).trans rfl; have hygb1_1_23 := aA BK1.out 1; have hzgb1_2_23 : w23.cell? ⟨gb1, 2, none⟩ = some (.int .i64 a0_2) := (aD BK1.out 2).trans rfl; have hygb1_2_23 := aA BK1.out 2; have hzgb1_3_23 : w23.cell? ⟨gb1, 3, none⟩ = some (.bool a0_3) := (aD BK1.out 3).trans rfl; have hygb1_3_23 := aA BK1.out 3; have hzgb2_0_23 : w23.cell? ⟨gb2, 0, none⟩ = some (.slice A5 l0_0.length c5) := (aD BK2.out 0).trans rfl; have hygb2_0_23 := aA BK2.out 0; have hzgb2_1_23 : w23.cell? ⟨gb2, 1, none⟩ = some (.slice A13 l0_1.length c13) := (aD BK2.out 1).trans rfl; have hygb2_1_23 := aA BK2.out 1; have hzgb2_2_23 : w23.cell? ⟨gb2, 2, none⟩ = some (.int .i64 a0_2) := (aD BK2.out 2).trans rfl; have hygb2_2_23 := aA BK2.out 2; have hzgb2_3_23 : w23.cell? ⟨gb2, 3, none⟩ = some (.bool a0_3) := (aD BK2.out 3).trans rfl; have hygb2_3_23 := aA BK2.out 3; have hzgb3_0_23 : w23.cell? ⟨gb3, 0, none⟩ = some (.slice A5 l0_0.length c5) := (aD BK3.out 0).trans rfl; have hygb3_0_23 := aA BK3.out 0; have hzgb3_1_23 : w23.cell? ⟨gb3, 1, none⟩ = some (.slice A13 l0_1.length c13) := (aD BK3.out 1).trans rfl; have hygb3_1_23 := aA BK3.out 1; have hzgb3_2_23 : w23.cell? ⟨gb3, 2, none⟩ = some (.int .i64 a0_2) := (aD BK3.out 2).trans rfl; have hygb3_2_23 := aA BK3.out 2; have hzgb3_3_23 : w23.cell? ⟨gb3, 3, none⟩ = some (.bool a0_3) := (aD BK3.out 3).trans rfl; have hygb3_3_23 := aA BK3.out 3))
 refine bodyPost_ret (fn := Try.f58) (P := Try.prog) (results_cell_row rfl _ _ gb2 25 #[.slice A5 l0_0.length c5, .slice A13 l0_1.length c13, .int .i64 a0_2, .bool a0_3] (0, 0) _ rfl BK2.out Try.underlying25 rfl (by kernel_rfl)) rfl ?_
 first | exact ⟨_, _, hi5, rfl, (by have o_ := HORD.out; omega), (by have o_ := HORD.out; have t_ := HT.out; omega), Kd.S_mono (Kd.S_lower HS5.out (by have o_ := HORD.out; omega)) (fun k_ hk_ => by have o_ := HORD.out; have t_ := HT.out; (try simp only [In2, Up, In] at hk_ ⊢); omega), Kd.S_mono (Kd.S_lower HS13.out (by have o_ := HORD.out; omega)) (fun k_ hk_ => by have o_ := HORD.out; have t_ := HT.out; (try simp only [In2, Up, In] at hk_ ⊢); omega), HB.out⟩ | exact ⟨_, _, rfl, hi5, (by have o_ := HORD.out; omega), (by have o_ := HORD.out; have t_ := HT.out; omega), Kd.S_mono (Kd.S_lower HS5.out (by have o_ := HORD.out; omega)) (fun k_ hk_ => by have o_ := HORD.out; have t_ := HT.out; (try simp only [In2, Up, In] at hk_ ⊢); omega), Kd.S_mono (Kd.S_lower HS13.out (by have o_ := HORD.out; omega)) (fun k_ hk_ => by have o_ := HORD.out; have t_ := HT.out; (try simp only [In2, Up, In] at hk_ ⊢); omega), HB.out⟩
def impl_copyDevS.f (l0_0 : List (List Int)) (l0_1 : List (S50)) (a0_2 : Int) (a0_3 : Bool) : Option (List (List Int) × List (S50) × Int × Bool) := if okDevB l0_0 l0_1 = true then some (l0_0, l0_1, a0_2, a0_3) else none
theorem impl_copyDevS.calls (P0_0_ : Nat → Prop) (A0_0 : Option Addr) (c0_0 : Nat) (l0_0 : List (List Int)) (P0_1_ : Nat → Prop) (A0_1 : Option Addr) (c0_1 : Nat) (l0_1 : List (S50)) (a0_2 : Int) (a0_3 : Bool) (r1 : List (List Int)) (r2 : List (S50)) (r3 : Int) (r4 : Bool) (w : World) (hs0_0 : Kd.V (Kd.slice 5 (Kd.int .u8)) 37 w w.heap.size (fun k_ => P0_0_ k_) (.slice A0_0 l0_0.length c0_0) l0_0) (hs0_1 : Kd.V k50 50 w w.heap.size (fun k_ => P0_1_ k_) (.slice A0_1 l0_1.length c0_1) l0_1) (h : impl_copyDevS.f l0_0 l0_1 a0_2 a0_3 = some (r1, r2, r3, r4)) :
  Calls Try.prog 58 #[.agg #[.slice A0_0 l0_0.length c0_0, .slice A0_1 l0_1.length c0_1, .int .i64 a0_2, .bool a0_3]] w fun e w' => ∃ v0_ v1_ : Value, ∃ m_ : Nat, e = .returned (.agg #[v0_, v1_, .int .i64 r3, .bool r4]) ∧ w.heap.size ≤ m_ ∧ m_ ≤ w'.heap.size ∧ Kd.S (Kd.slice 5 (Kd.int .u8)) 37 w' w.heap.size (In w.heap.size m_) v0_ r1 ∧ Kd.S k50 50 w' w.heap.size (In m_ w'.heap.size) v1_ r2 ∧ Below w.heap.size w w' := by
 obtain ⟨_, hc0_, hf0_⟩ := Kd.V_at hs0_0
 obtain ⟨_, hc1_, hf1_⟩ := Kd.V_at hs0_1
 replace hf0_ := Kd.F_mono (ok' := In 0 w.heap.size) (Kd.F_bound hf0_) (fun k hk => ⟨Nat.zero_le k, hk.2⟩)
 replace hf1_ := Kd.F_mono (ok' := In 0 w.heap.size) (Kd.F_bound hf1_) (fun k hk => ⟨Nat.zero_le k, hk.2⟩)
 unfold impl_copyDevS.f at h
 split at h
 ·rename_i hok
  unfold okDevB at hok
  simp only [Bool.and_eq_true, decide_eq_true_eq] at hok
  obtain ⟨hok0, hok1⟩ := hok
  injection h with h
  simp only [Prod.mk.injEq] at h
  obtain ⟨rfl, rfl, rfl, rfl⟩ := h
  exact walk_copyDev _ _ _ _ _ _ _ _ w hf0_ hc0_ hf1_ hc1_ hok0 hok1
 ·cases h
theorem copyDevS_f {l : List (List Int)} {m : List (S50)} (h : okByteSS l) (h2 : okWrS m) (a : Int) (b : Bool) : impl_copyDevS.f l m a b = some (l, m, a, b) := by
 unfold impl_copyDevS.f okDevB
 unfold okByteSS at h
 unfold okWrS at h2
 rw [if_pos (by simp [h, h2])]
theorem flush_t {s : List (List Int)} {c : List S50} {x : Int} {i : Nat} (hx : x = (i : Int)) : flushSecs s c (i + 1) = (flushSecs s c i).set (rdW c x).f0.toNat (rdW c x).f1 := by
 subst hx
 unfold rdW
 rw [Int.toNat_natCast]
 rfl
set_option maxHeartbeats 8000000 in
set_option maxRecDepth 100000 in
theorem walk_burn0 (A0_0 : Option Addr) (c0_0 : Nat) (l0_0 : List (List (Int))) (A0_1 : Option Addr) (c0_1 : Nat) (l0_1 : List (S50)) (a0_3 : Bool) (w : World) :
  Calls Try.prog 59 #[.agg #[.slice A0_0 l0_0.length c0_0, .slice A0_1 l0_1.length c0_1, .int .i64 0, .bool a0_3]] w fun e w' => e = .returned (.tuple #[.agg #[.slice A0_0 l0_0.length c0_0, .slice A0_1 l0_1.length c0_1, .int .i64 (-1), .bool true], .bool false]) ∧ Below w.heap.size w w' := by
 have hu25 := Try.underlying25
 have HB := aC.mk (Below.refl w.heap.size w)
 have HORD := aC.mk (Nat.le_refl w.heap.size)
 have HT := aC.mk (Nat.le_refl w.heap.size)
 go_enter Try.func59, Try.ntmps59
 go_wp2_with (first | ((with_reducible refine bC (N := 1) rfl ?_); refine bB ?hg (N := 1) ?hd (cs := #[.slice A0_0 l0_0.length c0_0, .slice A0_1 l0_1.length c0_1, .int .i64 0, .bool a0_3]) (t := 25) ?hr ?_; (case hd => rfl); (case hg => rfl); (case hr => first | (go_simp; done) | (go_simp; rfl)); intro gb1 hg_ w1 hbox hb; have hge_ : w.heap.size ≤ gb1 := (by rw [hg_]; exact HT.out); have hlt_ : gb1 + 1 ≤ w1.heap.size := bG hbox; have n0_ := aC.mk (aV HB.out hb); have n1_ := aC.mk (hbox); have n2_ := aC.mk (And.intro HORD.out (And.intro hge_ (Nat.le_succ gb1))); have n3_ := aC.mk (hlt_); (try clear HB); (try clear BK1); (try clear HORD); (try clear HT); have HB := n0_; have BK1 := n1_; have HORD := n2_; have HT := n3_; clear n0_ n1_ n2_ n3_; clear hb hbox hg_ hge_ hlt_; have hzgb1_0_1 : w1.cell? ⟨gb1, 0, none⟩ = some (.slice A0_0 l0_0.length c0_0) := (aD BK1.out 0).trans rfl; have hygb1_0_1 := aA BK1.out 0; have hzgb1_1_1 : w1.cell? ⟨gb1, 1, none⟩ = some (.slice A0_1 l0_1.length c0_1) := (aD BK1.out 1).trans rfl; have hygb1_1_1 := aA BK1.out 1; have hzgb1_2_1 : w1.cell? ⟨gb1, 2, none⟩ = some (.int .i64 0) := (aD BK1.out 2).trans rfl; have hygb1_2_1 := aA BK1.out 2; have hzgb1_3_1 : w1.cell? ⟨gb1, 3, none⟩ = some (.bool a0_3) := (aD BK1.out 3).trans rfl; have hygb1_3_1 := aA BK1.out 3) | ((with_reducible refine bC (N := 2) rfl ?_); refine bB ?hg (N := 2) ?hd (cs := #[.slice none 0 0, .slice none 0 0, .int .i64 0, .bool false]) (t := 25) ?hr ?_; (case hd => rfl); (case hg => rfl); (case hr => first | (go_simp; done) | (go_simp; rfl)); intro gb2 hg_ w2 hbox hb; have hge_ : (gb1 + 1) ≤ gb2 := (by rw [hg_]; exact HT.out); have hlt_ : gb2 + 1 ≤ w2.heap.size := bG hbox; have n0_ := aC.mk (aM BK1.out hb); have n1_ := aC.mk (aV HB.out hb); have n2_ := aC.mk (hbox); have n3_ := aC.mk (And.intro HORD.out (And.intro hge_ (Nat.le_succ gb2))); have n4_ := aC.mk (hlt_); (try clear BK1); (try clear HB); (try clear BK2); (try clear HORD); (try clear HT); have BK1 := n0_; have HB := n1_; have BK2 := n2_; have HORD := n3_; have HT := n4_; clear n0_ n1_ n2_ n3_ n4_; clear hb hbox hg_ hge_ hlt_; have hzgb1_0_2 : w2.cell? ⟨gb1, 0, none⟩ = some (.slice A0_0 l0_0.length c0_0) := (aD BK1.out 0).trans rfl; have hygb1_0_2 := aA BK1.out 0; have hzgb1_1_2 : w2.cell? ⟨gb1, 1, none⟩ = some (.slice A0_1 l0_1.length c0_1) := (aD BK1.out 1).trans rfl; have hygb1_1_2 := aA BK1.out 1; have hzgb1_2_2 : w2.cell? ⟨gb1, 2, none⟩ = some (.int .i64 0) := (aD BK1.out 2).trans rfl; have hygb1_2_2 := aA BK1.out 2; have hzgb1_3_2 : w2.cell? ⟨gb1, 3, none⟩ = some (.bool a0_3) := (aD BK1.out 3).trans rfl; have hygb1_3_2 := aA BK1.out 3; have hzgb2_0_2 : w2.cell? ⟨gb2, 0, none⟩ = some (.slice none 0 0) := (aD BK2.out 0).trans rfl; have hygb2_0_2 := aA BK2.out 0; have hzgb2_1_2 : w2.cell? ⟨gb2, 1, none⟩ = some (.slice none 0 0) := (aD BK2.out 1).trans rfl; have hygb2_1_2 := aA BK2.out 1; have hzgb2_2_2 : w2.cell? ⟨gb2, 2, none⟩ = some (.int .i64 0) := (aD BK2.out 2).trans rfl; have hygb2_2_2 := aA BK2.out 2; have hzgb2_3_2 : w2.cell? ⟨gb2, 3, none⟩ = some (.bool false) := (aD BK2.out 3).trans rfl; have hygb2_3_2 := aA BK2.out 3) | ((with_reducible refine bP (t := 4) (p := 7) rfl ?_); refine bK (t := 4) (p := 7) (v := ?vo_w3) (w1 := (w2.setCell ⟨gb1, 3, none⟩ (.bool true))) ?hg ?ho ?hn ?hr ?_; (case ho => rfl); (case hg => rfl); (case hn => rfl); (case hr => first | (go_simp; done) | (go_simp; rfl)); intro w3 hw_; have hkp : Kept w2 w3 (fun k_ => k_ = gb1) := (by rw [hw_]; exact Kept.setCell (Kept.refl w2 (fun k_ => k_ = gb1)) (.inl rfl) (.bool true)); have hge_ : w.heap.size ≤ gb1 := (by have o_ := HORD.out; (try unfold In at *); (try show _ ≠ _); omega); have hbn_ : Below w.heap.size w w3 := (by rw [hw_]; exact aG (HB.out) hge_); have hbk_ : w3.heap[gb1]? = some (.cells #[.slice A0_0 l0_0.length c0_0, .slice A0_1 l0_1.length c0_1, .int .i64 0, .bool true] 25 (0, 0)) := (by rw [hw_]; exact aX (cs := #[.slice A0_0 l0_0.length c0_0, .slice A0_1 l0_1.length c0_1, .int .i64 0, .bool a0_3]) (cs' := #[.slice A0_0 l0_0.length c0_0, .slice A0_1 l0_1.length c0_1, .int .i64 0, .bool true]) (BK1.out) 3 _ rfl); have hsz_ : (gb2 + 1) ≤ w3.heap.size := Nat.le_trans HT.out hkp.1; have n0_ := aC.mk (bA BK2.out hkp (fun h2_ => by have o_ := HORD.out; have t_ := HT.out; (try simp only [In2, Up, In, Ex, Exb] at h2_); omega)); have n1_ := aC.mk (hbn_); have n2_ := aC.mk (hbk_); have n3_ := aC.mk (hsz_); (try clear BK2); (try clear HB); (try clear BK1); (try clear HT); have BK2 := n0_; have HB := n1_; have BK1 := n2_; have HT := n3_; clear n0_ n1_ n2_ n3_; clear hw_ hkp hge_ hbn_ hbk_ hsz_; have hzgb1_0_3 : w3.cell? ⟨gb1, 0, none⟩ = some (.slice A0_0 l0_0.length c0_0) := (aD BK1.out 0).trans rfl; have hygb1_0_3 := aA BK1.out 0; have hzgb1_1_3 : w3.cell? ⟨gb1, 1, none⟩ = some (.slice A0_1 l0_1.length c0_1) := (aD BK1.out 1).trans rfl; have hygb1_1_3 := aA BK1.out 1; have hzgb1_2_3 : w3.cell? ⟨gb1, 2, none⟩ = some (.int .i64 0) := (aD BK1.out 2).trans rfl; have hygb1_2_3 := aA BK1.out 2; have hzgb1_3_3 : w3.cell? ⟨gb1, 3, none⟩ = some (.bool true) := (aD BK1.out 3).trans rfl; have hygb1_3_3 := aA BK1.out 3; have hzgb2_0_3 : w3.cell? ⟨gb2, 0, none⟩ = some (.slice none 0 0) := (aD BK2.out 0).trans rfl; have hygb2_0_3 := aA BK2.out 0; have hzgb2_1_3 : w3.cell? ⟨gb2, 1, none⟩ = some (.slice none 0 0) := (aD BK2.out 1).trans rfl; have hygb2_1_3 := aA BK2.out 1; have hzgb2_2_3 : w3.cell? ⟨gb2, 2, none⟩ = some (.int .i64 0) := (aD BK2.out 2).trans rfl; have hygb2_2_3 := aA BK2.out 2; have hzgb2_3_3 : w3.cell? ⟨gb2, 3, none⟩ = some (.bool false) := (aD BK2.out 3).trans rfl; have hygb2_3_3 := aA BK2.out 3) | ((with_reducible refine bP (t := 3) (p := 8) rfl ?_); refine bK (t := 3) (p := 8) (v := ?vo_w4) (w1 := (w3.setCell ⟨gb1, 2, none⟩ (.int .i64 ((-1))))) ?hg ?ho ?hn ?hr ?_; (case ho => rfl); (case hg => rfl); (case hn => rfl); (case hr => first | (go_simp; done) | (go_simp; rfl)); intro w4 hw_; have hkp : Kept w3 w4 (fun k_ => k_ = gb1) := (by rw [hw_]; exact Kept.setCell (Kept.refl w3 (fun k_ => k_ = gb1)) (.inl rfl) (.int .i64 ((-1)))); have hge_ : w.heap.size ≤ gb1 := (by have o_ := HORD.out; (try unfold In at *); (try show _ ≠ _); omega); have hbn_ : Below w.heap.size w w4 := (by rw [hw_]; exact aG (HB.out) hge_); have hbk_ : w4.heap[gb1]? = some (.cells #[.slice A0_0 l0_0.length c0_0, .slice A0_1 l0_1.length c0_1, .int .i64 ((-1)), .bool true] 25 (0, 0)) := (by rw [hw_]; exact aX (cs := #[.slice A0_0 l0_0.length c0_0, .slice A0_1 l0_1.length c0_1, .int .i64 0, .bool true]) (cs' := #[.slice A0_0 l0_0.length c0_0, .slice A0_1 l0_1.length c0_1, .int .i64 ((-1)), .bool true]) (BK1.out) 2 _ rfl); have hsz_ : (gb2 + 1) ≤ w4.heap.size := Nat.le_trans HT.out hkp.1; have n0_ := aC.mk (bA BK2.out hkp (fun h2_ => by have o_ := HORD.out; have t_ := HT.out; (try simp only [In2, Up, In, Ex, Exb] at h2_); omega)); have n1_ := aC.mk (hbn_); have n2_ := aC.mk (hbk_); have n3_ := aC.mk (hsz_); (try clear BK2); (try clear HB); (try clear BK1); (try clear HT); have BK2 := n0_; have HB := n1_; have BK1 := n2_; have HT := n3_; clear n0_ n1_ n2_ n3_; clear hw_ hkp hge_ hbn_ hbk_ hsz_; have hzgb1_0_4 : w4.cell? ⟨gb1, 0, none⟩ = some (.slice A0_0 l0_0.length c0_0) := (aD BK1.out 0).trans rfl; have hygb1_0_4 := aA BK1.out 0; have hzgb1_1_4 : w4.cell? ⟨gb1, 1, none⟩ = some (.slice A0_1 l0_1.length c0_1) := (aD BK1.out 1).trans rfl; have hygb1_1_4 := aA BK1.out 1; have hzgb1_2_4 : w4.cell? ⟨gb1, 2, none⟩ = some (.int .i64 ((-1))) := (aD BK1.out 2).trans rfl; have hygb1_2_4 := aA BK1.out 2; have hzgb1_3_4 : w4.cell? ⟨gb1, 3, none⟩ = some (.bool true) := (aD BK1.out 3).trans rfl; have hygb1_3_4 := aA BK1.out 3; have hzgb2_0_4 : w4.cell? ⟨gb2, 0, none⟩ = some (.slice none 0 0) := (aD BK2.out 0).trans rfl; have hygb2_0_4 := aA BK2.out 0; have hzgb2_1_4 : w4.cell? ⟨gb2, 1, none⟩ = some (.slice none 0 0) := (aD BK2.out 1).trans rfl; have hygb2_1_4 := aA BK2.out 1; have hzgb2_2_4 : w4.cell? ⟨gb2, 2, none⟩ = some (.int .i64 0) := (aD BK2.out 2).trans rfl; have hygb2_2_4 := aA BK2.out 2; have hzgb2_3_4 : w4.cell? ⟨gb2, 3, none⟩ = some (.bool false) := (aD BK2.out 3).trans rfl; have hygb2_3_4 := aA BK2.out 3) | ((with_reducible refine bP (t := 25) (p := 2) rfl ?_); refine bK (t := 25) (p := 2) (v := ?vo_w5) (w1 := ((((w4.setCell ⟨gb2, 0, none⟩ (.slice A0_0 l0_0.length c0_0)).setCell ⟨gb2, 1, none⟩ (.slice A0_1 l0_1.length c0_1)).setCell ⟨gb2, 2, none⟩ (.int .i64 ((-1)))).setCell ⟨gb2, 3, none⟩ (.bool true))) ?hg ?ho ?hn ?hr ?_; (case ho => rfl); (case hg => rfl); (case hn => rfl); (case hr => first | (go_simp; done) | (go_simp; rfl)); intro w5 hw_; have hkp : Kept w4 w5 (fun k_ => k_ = gb2) := (by rw [hw_]; exact Kept.setCell (Kept.setCell (Kept.setCell (Kept.setCell (Kept.refl w4 (fun k_ => k_ = gb2)) (.inl rfl) (.slice A0_0 l0_0.length c0_0)) (.inl rfl) (.slice A0_1 l0_1.length c0_1)) (.inl rfl) (.int .i64 ((-1)))) (.inl rfl) (.bool true)); have hge_ : w.heap.size ≤ gb2 := (by have o_ := HORD.out; (try unfold In at *); (try show _ ≠ _); omega); have hbn_ : Below w.heap.size w w5 := (by rw [hw_]; exact aG (aG (aG (aG (HB.out) hge_) hge_) hge_) hge_); have hbk_ : w5.heap[gb2]? = some (.cells #[.slice A0_0 l0_0.length c0_0, .slice A0_1 l0_1.length c0_1, .int .i64 ((-1)), .bool true] 25 (0, 0)) := (by rw [hw_]; exact aX (cs := #[.slice A0_0 l0_0.length c0_0, .slice A0_1 l0_1.length c0_1, .int .i64 ((-1)), .bool false]) (cs' := #[.slice A0_0 l0_0.length c0_0, .slice A0_1 l0_1.length c0_1, .int .i64 ((-1)), .bool true]) (aX (cs := #[.slice A0_0 l0_0.length c0_0, .slice A0_1 l0_1.length c0_1, .int .i64 0, .bool false]) (cs' := #[.slice A0_0 l0_0.length c0_0, .slice A0_1 l0_1.length c0_1, .int .i64 ((-1)), .bool false]) (aX (cs := #[.slice A0_0 l0_0.length c0_0, .slice none 0 0, .int .i64 0, .bool false]) (cs' := #[.slice A0_0 l0_0.length c0_0, .slice A0_1 l0_1.length c0_1, .int .i64 0, .bool false]) (aX (cs := #[.slice none 0 0, .slice none 0 0, .int .i64 0, .bool false]) (cs' := #[.slice A0_0 l0_0.length c0_0, .slice none 0 0, .int .i64 0, .bool false]) (BK2.out) 0 _ rfl) 1 _ rfl) 2 _ rfl) 3 _ rfl); have hsz_ : (gb2 + 1) ≤ w5.heap.size := Nat.le_trans HT.out hkp.1; have n0_ := aC.mk (bA BK1.out hkp (fun h2_ => by have o_ := HORD.out; have t_ := HT.out; (try simp only [In2, Up, In, Ex, Exb] at h2_); omega)); have n1_ := aC.mk (hbn_); have n2_ := aC.mk (hbk_); have n3_ := aC.mk (hsz_); (try clear BK1); (try clear HB); (try clear BK2); (try clear HT); have BK1 := n0_; have HB := n1_; have BK2 := n2_; have HT := n3_; clear n0_ n1_ n2_ n3_; clear hw_ hkp hge_ hbn_ hbk_ hsz_; have hzgb1_0_5 : w5.cell? ⟨gb1, 0, none⟩ = some (.slice A0_0 l0_0.length c0_0) := (aD BK1.out 0).trans rfl; have hygb1_0_5 := aA BK1.out 0; have hzgb1_1_5 : w5.cell? ⟨gb1, 1, none⟩ = some (.slice A0_1 l0_1.length c0_1) := (aD BK1.out 1).trans rfl; have hygb1_1_5 := aA BK1.out 1; have hzgb1_2_5 : w5.cell? ⟨gb1, 2, none⟩ = some (.int .i64 ((-1))) := (aD BK1.out 2).trans rfl; have hygb1_2_5 := aA BK1.out 2; have hzgb1_3_5 : w5.cell? ⟨gb1, 3, none⟩ = some (.bool true) := (aD BK1.out 3).trans rfl; have hygb1_3_5 := aA BK1.out 3; have hzgb2_0_5 : w5.cell? ⟨gb2, 0, none⟩ = some (.slice A0_0 l0_0.length c0_0) := (aD BK2.out 0).trans rfl; have hygb2_0_5 := aA BK2.out 0; have hzgb2_1_5 : w5.cell? ⟨gb2, 1, none⟩ = some (.slice A0_1 l0_1.length c0_1) := (aD BK2.out 1).trans rfl; have hygb2_1_5 := aA BK2.out 1; have hzgb2_2_5 : w5.cell? ⟨gb2, 2, none⟩ = some (.int .i64 ((-1))) := (aD BK2.out 2).trans rfl; have hygb2_2_5 := aA BK2.out 2; have hzgb2_3_5 : w5.cell? ⟨gb2, 3, none⟩ = some (.bool true) := (aD BK2.out 3).trans rfl; have hygb2_3_5 := aA BK2.out 3))
 refine bodyPost_ret (results_ct rfl _ _ gb2 25 #[.slice A0_0 l0_0.length c0_0, .slice A0_1 l0_1.length c0_1, .int .i64 ((-1)), .bool true] (0, 0) _ rfl BK2.out Try.underlying25 rfl (by kernel_rfl)) rfl ?_
 exact ⟨rfl, HB.out⟩
set_option maxHeartbeats 8000000 in
set_option maxRecDepth 100000 in
theorem walk_burn1 (A0_0 : Option Addr) (c0_0 : Nat) (l0_0 : List (List (Int))) (A0_1 : Option Addr) (c0_1 : Nat) (l0_1 : List (S50)) (a0_2 : Int) (a0_3 : Bool) (w : World) (hp0 : 0 < a0_2) :
  Calls Try.prog 59 #[.agg #[.slice A0_0 l0_0.length c0_0, .slice A0_1 l0_1.length c0_1, .int .i64 a0_2, .bool a0_3]] w fun e w' => e = .returned (.tuple #[.agg #[.slice A0_0 l0_0.length c0_0, .slice A0_1 l0_1.length c0_1, .int .i64 (wrap64 (a0_2 - 1)), .bool a0_3], .bool true]) ∧ Below w.heap.size w w' := by
 have hu25 := Try.underlying25
 have HB := aC.mk (Below.refl w.heap.size w)
 have HORD := aC.mk (Nat.le_refl w.heap.size)
 have HT := aC.mk (Nat.le_refl w.heap.size)
 have d1_ : (a0_2 == 0) = false := beq_eq_false_iff_ne.mpr (by omega)
 have d2_ : decide (0 < a0_2) = true := decide_eq_true hp0
 go_enter Try.func59, Try.ntmps59
 go_wp2_with (first | ((with_reducible refine bC (N := 1) rfl ?_); refine bB ?hg (N := 1) ?hd (cs := #[.slice A0_0 l0_0.length c0_0, .slice A0_1 l0_1.length c0_1, .int .i64 a0_2, .bool a0_3]) (t := 25) ?hr ?_; (case hd => rfl); (case hg => rfl); (case hr => first | (go_simp; done) | (go_simp; rfl)); intro gb1 hg_ w1 hbox hb; have hge_ : w.heap.size ≤ gb1 := (by rw [hg_]; exact HT.out); have hlt_ : gb1 + 1 ≤ w1.heap.size := bG hbox; have n0_ := aC.mk (aV HB.out hb); have n1_ := aC.mk (hbox); have n2_ := aC.mk (And.intro HORD.out (And.intro hge_ (Nat.le_succ gb1))); have n3_ := aC.mk (hlt_); (try clear HB); (try clear BK1); (try clear HORD); (try clear HT); have HB := n0_; have BK1 := n1_; have HORD := n2_; have HT := n3_; clear n0_ n1_ n2_ n3_; clear hb hbox hg_ hge_ hlt_; have hzgb1_0_1 : w1.cell? ⟨gb1, 0, none⟩ = some (.slice A0_0 l0_0.length c0_0) := (aD BK1.out 0).trans rfl; have hygb1_0_1 := aA BK1.out 0; have hzgb1_1_1 : w1.cell? ⟨gb1, 1, none⟩ = some (.slice A0_1 l0_1.length c0_1) := (aD BK1.out 1).trans rfl; have hygb1_1_1 := aA BK1.out 1; have hzgb1_2_1 : w1.cell? ⟨gb1, 2, none⟩ = some (.int .i64 a0_2) := (aD BK1.out 2).trans rfl; have hygb1_2_1 := aA BK1.out 2; have hzgb1_3_1 : w1.cell? ⟨gb1, 3, none⟩ = some (.bool a0_3) := (aD BK1.out 3).trans rfl; have hygb1_3_1 := aA BK1.out 3) | ((with_reducible refine bC (N := 2) rfl ?_); refine bB ?hg (N := 2) ?hd (cs := #[.slice none 0 0, .slice none 0 0, .int .i64 0, .bool false]) (t := 25) ?hr ?_; (case hd => rfl); (case hg => rfl); (case hr => first | (go_simp; done) | (go_simp; rfl)); intro gb2 hg_ w2 hbox hb; have hge_ : (gb1 + 1) ≤ gb2 := (by rw [hg_]; exact HT.out); have hlt_ : gb2 + 1 ≤ w2.heap.size := bG hbox; have n0_ := aC.mk (aM BK1.out hb); have n1_ := aC.mk (aV HB.out hb); have n2_ := aC.mk (hbox); have n3_ := aC.mk (And.intro HORD.out (And.intro hge_ (Nat.le_succ gb2))); have n4_ := aC.mk (hlt_); (try clear BK1); (try clear HB); (try clear BK2); (try clear HORD); (try clear HT); have BK1 := n0_; have HB := n1_; have BK2 := n2_; have HORD := n3_; have HT := n4_; clear n0_ n1_ n2_ n3_ n4_; clear hb hbox hg_ hge_ hlt_; have hzgb1_0_2 : w2.cell? ⟨gb1, 0, none⟩ = some (.slice A0_0 l0_0.length c0_0) := (aD BK1.out 0).trans rfl; have hygb1_0_2 := aA BK1.out 0; have hzgb1_1_2 : w2.cell? ⟨gb1, 1, none⟩ = some (.slice A0_1 l0_1.length c0_1) := (aD BK1.out 1).trans rfl; have hygb1_1_2 := aA BK1.out 1; have hzgb1_2_2 : w2.cell? ⟨gb1, 2, none⟩ = some (.int .i64 a0_2) := (aD BK1.out 2).trans rfl; have hygb1_2_2 := aA BK1.out 2; have hzgb1_3_2 : w2.cell? ⟨gb1, 3, none⟩ = some (.bool a0_3) := (aD BK1.out 3).trans rfl; have hygb1_3_2 := aA BK1.out 3; have hzgb2_0_2 : w2.cell? ⟨gb2, 0, none⟩ = some (.slice none 0 0) := (aD BK2.out 0).trans rfl; have hygb2_0_2 := aA BK2.out 0; have hzgb2_1_2 : w2.cell? ⟨gb2, 1, none⟩ = some (.slice none 0 0) := (aD BK2.out 1).trans rfl; have hygb2_1_2 := aA BK2.out 1; have hzgb2_2_2 : w2.cell? ⟨gb2, 2, none⟩ = some (.int .i64 0) := (aD BK2.out 2).trans rfl; have hygb2_2_2 := aA BK2.out 2; have hzgb2_3_2 : w2.cell? ⟨gb2, 3, none⟩ = some (.bool false) := (aD BK2.out 3).trans rfl; have hygb2_3_2 := aA BK2.out 3) | ((with_reducible refine bP (t := 3) (p := 16) rfl ?_); refine bK (t := 3) (p := 16) (v := ?vo_w3) (w1 := (w2.setCell ⟨gb1, 2, none⟩ (.int .i64 ((wrap64 (a0_2 - 1)))))) ?hg ?ho ?hn ?hr ?_; (case ho => rfl); (case hg => rfl); (case hn => rfl); (case hr => first | (go_simp; done) | (go_simp; rfl)); intro w3 hw_; have hkp : Kept w2 w3 (fun k_ => k_ = gb1) := (by rw [hw_]; exact Kept.setCell (Kept.refl w2 (fun k_ => k_ = gb1)) (.inl rfl) (.int .i64 ((wrap64 (a0_2 - 1))))); have hge_ : w.heap.size ≤ gb1 := (by have o_ := HORD.out; (try unfold In at *); (try show _ ≠ _); omega); have hbn_ : Below w.heap.size w w3 := (by rw [hw_]; exact aG (HB.out) hge_); have hbk_ : w3.heap[gb1]? = some (.cells #[.slice A0_0 l0_0.length c0_0, .slice A0_1 l0_1.length c0_1, .int .i64 ((wrap64 (a0_2 - 1))), .bool a0_3] 25 (0, 0)) := (by rw [hw_]; exact aX (cs := #[.slice A0_0 l0_0.length c0_0, .slice A0_1 l0_1.length c0_1, .int .i64 a0_2, .bool a0_3]) (cs' := #[.slice A0_0 l0_0.length c0_0, .slice A0_1 l0_1.length c0_1, .int .i64 ((wrap64 (a0_2 - 1))), .bool a0_3]) (BK1.out) 2 _ rfl); have hsz_ : (gb2 + 1) ≤ w3.heap.size := Nat.le_trans HT.out hkp.1; have n0_ := aC.mk (bA BK2.out hkp (fun h2_ => by have o_ := HORD.out; have t_ := HT.out; (try simp only [In2, Up, In, Ex, Exb] at h2_); omega)); have n1_ := aC.mk (hbn_); have n2_ := aC.mk (hbk_); have n3_ := aC.mk (hsz_); (try clear BK2); (try clear HB); (try clear BK1); (try clear HT); have BK2 := n0_; have HB := n1_; have BK1 := n2_; have HT := n3_; clear n0_ n1_ n2_ n3_; clear hw_ hkp hge_ hbn_ hbk_ hsz_; have hzgb1_0_3 : w3.cell? ⟨gb1, 0, none⟩ = some (.slice A0_0 l0_0.length c0_0) := (aD BK1.out 0).trans rfl; have hygb1_0_3 := aA BK1.out 0; have hzgb1_1_3 : w3.cell? ⟨gb1, 1, none⟩ = some (.slice A0_1 l0_1.length c0_1) := (aD BK1.out 1).trans rfl; have hygb1_1_3 := aA BK1.out 1; have hzgb1_2_3 : w3.cell? ⟨gb1, 2, none⟩ = some (.int .i64 ((wrap64 (a0_2 - 1)))) := (aD BK1.out 2).trans rfl; have hygb1_2_3 := aA BK1.out 2; have hzgb1_3_3 : w3.cell? ⟨gb1, 3, none⟩ = some (.bool a0_3) := (aD BK1.out 3).trans rfl; have hygb1_3_3 := aA BK1.out 3; have hzgb2_0_3 : w3.cell? ⟨gb2, 0, none⟩ = some (.slice none 0 0) := (aD BK2.out 0).trans rfl; have hygb2_0_3 := aA BK2.out 0; have hzgb2_1_3 : w3.cell? ⟨gb2, 1, none⟩ = some (.slice none 0 0) := (aD BK2.out 1).trans rfl; have hygb2_1_3 := aA BK2.out 1; have hzgb2_2_3 : w3.cell? ⟨gb2, 2, none⟩ = some (.int .i64 0) := (aD BK2.out 2).trans rfl; have hygb2_2_3 := aA BK2.out 2; have hzgb2_3_3 : w3.cell? ⟨gb2, 3, none⟩ = some (.bool false) := (aD BK2.out 3).trans rfl; have hygb2_3_3 := aA BK2.out 3) | ((with_reducible refine bP (t := 25) (p := 2) rfl ?_); refine bK (t := 25) (p := 2) (v := ?vo_w4) (w1 := ((((w3.setCell ⟨gb2, 0, none⟩ (.slice A0_0 l0_0.length c0_0)).setCell ⟨gb2, 1, none⟩ (.slice A0_1 l0_1.length c0_1)).setCell ⟨gb2, 2, none⟩ (.int .i64 ((wrap64 (a0_2 - 1))))).setCell ⟨gb2, 3, none⟩ (.bool a0_3))) ?hg ?ho ?hn ?hr ?_; (case ho => rfl); (case hg => rfl); (case hn => rfl); (case hr => first | (go_simp; done) | (go_simp; rfl)); intro w4 hw_; have hkp : Kept w3 w4 (fun k_ => k_ = gb2) := (by rw [hw_]; exact Kept.setCell (Kept.setCell (Kept.setCell (Kept.setCell (Kept.refl w3 (fun k_ => k_ = gb2)) (.inl rfl) (.slice A0_0 l0_0.length c0_0)) (.inl rfl) (.slice A0_1 l0_1.length c0_1)) (.inl rfl) (.int .i64 ((wrap64 (a0_2 - 1))))) (.inl rfl) (.bool a0_3)); have hge_ : w.heap.size ≤ gb2 := (by have o_ := HORD.out; (try unfold In at *); (try show _ ≠ _); omega); have hbn_ : Below w.heap.size w w4 := (by rw [hw_]; exact aG (aG (aG (aG (HB.out) hge_) hge_) hge_) hge_); have hbk_ : w4.heap[gb2]? = some (.cells #[.slice A0_0 l0_0.length c0_0, .slice A0_1 l0_1.length c0_1, .int .i64 ((wrap64 (a0_2 - 1))), .bool a0_3] 25 (0, 0)) := (by rw [hw_]; exact aX (cs := #[.slice A0_0 l0_0.length c0_0, .slice A0_1 l0_1.length c0_1, .int .i64 ((wrap64 (a0_2 - 1))), .bool false]) (cs' := #[.slice A0_0 l0_0.length c0_0, .slice A0_1 l0_1.length c0_1, .int .i64 ((wrap64 (a0_2 - 1))), .bool a0_3]) (aX (cs := #[.slice A0_0 l0_0.length c0_0, .slice A0_1 l0_1.length c0_1, .int .i64 0, .bool false]) (cs' := #[.slice A0_0 l0_0.length c0_0, .slice A0_1 l0_1.length c0_1, .int .i64 ((wrap64 (a0_2 - 1))), .bool false]) (aX (cs := #[.slice A0_0 l0_0.length c0_0, .slice none 0 0, .int .i64 0, .bool false]) (cs' := #[.slice A0_0 l0_0.length c0_0, .slice A0_1 l0_1.length c0_1, .int .i64 0, .bool false]) (aX (cs := #[.slice none 0 0, .slice none 0 0, .int .i64 0, .bool false]) (cs' := #[.slice A0_0 l0_0.length c0_0, .slice none 0 0, .int .i64 0, .bool false]) (BK2.out) 0 _ rfl) 1 _ rfl) 2 _ rfl) 3 _ rfl); have hsz_ : (gb2 + 1) ≤ w4.heap.size := Nat.le_trans HT.out hkp.1; have n0_ := aC.mk (bA BK1.out hkp (fun h2_ => by have o_ := HORD.out; have t_ := HT.out; (try simp only [In2, Up, In, Ex, Exb] at h2_); omega)); have n1_ := aC.mk (hbn_); have n2_ := aC.mk (hbk_); have n3_ := aC.mk (hsz_); (try clear BK1); (try clear HB); (try clear BK2); (try clear HT); have BK1 := n0_; have HB := n1_; have BK2 := n2_; have HT := n3_; clear n0_ n1_ n2_ n3_; clear hw_ hkp hge_ hbn_ hbk_ hsz_; have hzgb1_0_4 : w4.cell? ⟨gb1, 0, none⟩ = some (.slice A0_0 l0_0.length c0_0) := (aD BK1.out 0).trans rfl; have hygb1_0_4 := aA BK1.out 0; have hzgb1_1_4 : w4.cell? ⟨gb1, 1, none⟩ = some (.slice A0_1 l0_1.length c0_1) := (aD BK1.out 1).trans rfl; have hygb1_1_4 := aA BK1.out 1; have hzgb1_2_4 : w4.cell? ⟨gb1, 2, none⟩ = some (.int .i64 ((wrap64 (a0_2 - 1)))) := (aD BK1.out 2).trans rfl; have hygb1_2_4 := aA BK1.out 2; have hzgb1_3_4 : w4.cell? ⟨gb1, 3, none⟩ = some (.bool a0_3) := (aD BK1.out 3).trans rfl; have hygb1_3_4 := aA BK1.out 3; have hzgb2_0_4 : w4.cell? ⟨gb2, 0, none⟩ = some (.slice A0_0 l0_0.length c0_0) := (aD BK2.out 0).trans rfl; have hygb2_0_4 := aA BK2.out 0; have hzgb2_1_4 : w4.cell? ⟨gb2, 1, none⟩ = some (.slice A0_1 l0_1.length c0_1) := (aD BK2.out 1).trans rfl; have hygb2_1_4 := aA BK2.out 1; have hzgb2_2_4 : w4.cell? ⟨gb2, 2, none⟩ = some (.int .i64 ((wrap64 (a0_2 - 1)))) := (aD BK2.out 2).trans rfl; have hygb2_2_4 := aA BK2.out 2; have hzgb2_3_4 : w4.cell? ⟨gb2, 3, none⟩ = some (.bool a0_3) := (aD BK2.out 3).trans rfl; have hygb2_3_4 := aA BK2.out 3))
 refine bodyPost_ret (results_ct rfl _ _ gb2 25 #[.slice A0_0 l0_0.length c0_0, .slice A0_1 l0_1.length c0_1, .int .i64 ((wrap64 (a0_2 - 1))), .bool a0_3] (0, 0) _ rfl BK2.out Try.underlying25 rfl (by kernel_rfl)) rfl ?_
 exact ⟨rfl, HB.out⟩
set_option maxHeartbeats 8000000 in
set_option maxRecDepth 100000 in
theorem walk_burn2 (A0_0 : Option Addr) (c0_0 : Nat) (l0_0 : List (List (Int))) (A0_1 : Option Addr) (c0_1 : Nat) (l0_1 : List (S50)) (a0_2 : Int) (a0_3 : Bool) (w : World) (hp0 : a0_2 < 0) :
  Calls Try.prog 59 #[.agg #[.slice A0_0 l0_0.length c0_0, .slice A0_1 l0_1.length c0_1, .int .i64 a0_2, .bool a0_3]] w fun e w' => e = .returned (.tuple #[.agg #[.slice A0_0 l0_0.length c0_0, .slice A0_1 l0_1.length c0_1, .int .i64 a0_2, .bool a0_3], .bool true]) ∧ Below w.heap.size w w' := by
 have hu25 := Try.underlying25
 have HB := aC.mk (Below.refl w.heap.size w)
 have HORD := aC.mk (Nat.le_refl w.heap.size)
 have HT := aC.mk (Nat.le_refl w.heap.size)
 have d1_ : (a0_2 == 0) = false := beq_eq_false_iff_ne.mpr (by omega)
 have d2_ : decide (0 < a0_2) = false := decide_eq_false (by omega)
 go_enter Try.func59, Try.ntmps59
 go_wp2_with (first | ((with_reducible refine bC (N := 1) rfl ?_); refine bB ?hg (N := 1) ?hd (cs := #[.slice A0_0 l0_0.length c0_0, .slice A0_1 l0_1.length c0_1, .int .i64 a0_2, .bool a0_3]) (t := 25) ?hr ?_; (case hd => rfl); (case hg => rfl); (case hr => first | (go_simp; done) | (go_simp; rfl)); intro gb1 hg_ w1 hbox hb; have hge_ : w.heap.size ≤ gb1 := (by rw [hg_]; exact HT.out); have hlt_ : gb1 + 1 ≤ w1.heap.size := bG hbox; have n0_ := aC.mk (aV HB.out hb); have n1_ := aC.mk (hbox); have n2_ := aC.mk (And.intro HORD.out (And.intro hge_ (Nat.le_succ gb1))); have n3_ := aC.mk (hlt_); (try clear HB); (try clear BK1); (try clear HORD); (try clear HT); have HB := n0_; have BK1 := n1_; have HORD := n2_; have HT := n3_; clear n0_ n1_ n2_ n3_; clear hb hbox hg_ hge_ hlt_; have hzgb1_0_1 : w1.cell? ⟨gb1, 0, none⟩ = some (.slice A0_0 l0_0.length c0_0) := (aD BK1.out 0).trans rfl; have hygb1_0_1 := aA BK1.out 0; have hzgb1_1_1 : w1.cell? ⟨gb1, 1, none⟩ = some (.slice A0_1 l0_1.length c0_1) := (aD BK1.out 1).trans rfl; have hygb1_1_1 := aA BK1.out 1; have hzgb1_2_1 : w1.cell? ⟨gb1, 2, none⟩ = some (.int .i64 a0_2) := (aD BK1.out 2).trans rfl; have hygb1_2_1 := aA BK1.out 2; have hzgb1_3_1 : w1.cell? ⟨gb1, 3, none⟩ = some (.bool a0_3) := (aD BK1.out 3).trans rfl; have hygb1_3_1 := aA BK1.out 3) | ((with_reducible refine bC (N := 2) rfl ?_); refine bB ?hg (N := 2) ?hd (cs := #[.slice none 0 0, .slice none 0 0, .int .i64 0, .bool false]) (t := 25) ?hr ?_; (case hd => rfl); (case hg => rfl); (case hr => first | (go_simp; done) | (go_simp; rfl)); intro gb2 hg_ w2 hbox hb; have hge_ : (gb1 + 1) ≤ gb2 := (by rw [hg_]; exact HT.out); have hlt_ : gb2 + 1 ≤ w2.heap.size := bG hbox; have n0_ := aC.mk (aM BK1.out hb); have n1_ := aC.mk (aV HB.out hb); have n2_ := aC.mk (hbox); have n3_ := aC.mk (And.intro HORD.out (And.intro hge_ (Nat.le_succ gb2))); have n4_ := aC.mk (hlt_); (try clear BK1); (try clear HB); (try clear BK2); (try clear HORD); (try clear HT); have BK1 := n0_; have HB := n1_; have BK2 := n2_; have HORD := n3_; have HT := n4_; clear n0_ n1_ n2_ n3_ n4_; clear hb hbox hg_ hge_ hlt_; have hzgb1_0_2 : w2.cell? ⟨gb1, 0, none⟩ = some (.slice A0_0 l0_0.length c0_0) := (aD BK1.out 0).trans rfl; have hygb1_0_2 := aA BK1.out 0; have hzgb1_1_2 : w2.cell? ⟨gb1, 1, none⟩ = some (.slice A0_1 l0_1.length c0_1) := (aD BK1.out 1).trans rfl; have hygb1_1_2 := aA BK1.out 1; have hzgb1_2_2 : w2.cell? ⟨gb1, 2, none⟩ = some (.int .i64 a0_2) := (aD BK1.out 2).trans rfl; have hygb1_2_2 := aA BK1.out 2; have hzgb1_3_2 : w2.cell? ⟨gb1, 3, none⟩ = some (.bool a0_3) := (aD BK1.out 3).trans rfl; have hygb1_3_2 := aA BK1.out 3; have hzgb2_0_2 : w2.cell? ⟨gb2, 0, none⟩ = some (.slice none 0 0) := (aD BK2.out 0).trans rfl; have hygb2_0_2 := aA BK2.out 0; have hzgb2_1_2 : w2.cell? ⟨gb2, 1, none⟩ = some (.slice none 0 0) := (aD BK2.out 1).trans rfl; have hygb2_1_2 := aA BK2.out 1; have hzgb2_2_2 : w2.cell? ⟨gb2, 2, none⟩ = some (.int .i64 0) := (aD BK2.out 2).trans rfl; have hygb2_2_2 := aA BK2.out 2; have hzgb2_3_2 : w2.cell? ⟨gb2, 3, none⟩ = some (.bool false) := (aD BK2.out 3).trans rfl; have hygb2_3_2 := aA BK2.out 3) | ((with_reducible refine bP (t := 25) (p := 2) rfl ?_); refine bK (t := 25) (p := 2) (v := ?vo_w3) (w1 := ((((w2.setCell ⟨gb2, 0, none⟩ (.slice A0_0 l0_0.length c0_0)).setCell ⟨gb2, 1, none⟩ (.slice A0_1 l0_1.length c0_1)).setCell ⟨gb2, 2, none⟩ (.int .i64 a0_2)).setCell ⟨gb2, 3, none⟩ (.bool a0_3))) ?hg ?ho ?hn ?hr ?_; (case ho => rfl); (case hg => rfl); (case hn => rfl); (case hr => first | (go_simp; done) | (go_simp; rfl)); intro w3 hw_; have hkp : Kept w2 w3 (fun k_ => k_ = gb2) := (by rw [hw_]; exact Kept.setCell (Kept.setCell (Kept.setCell (Kept.setCell (Kept.refl w2 (fun k_ => k_ = gb2)) (.inl rfl) (.slice A0_0 l0_0.length c0_0)) (.inl rfl) (.slice A0_1 l0_1.length c0_1)) (.inl rfl) (.int .i64 a0_2)) (.inl rfl) (.bool a0_3)); have hge_ : w.heap.size ≤ gb2 := (by have o_ := HORD.out; (try unfold In at *); (try show _ ≠ _); omega); have hbn_ : Below w.heap.size w w3 := (by rw [hw_]; exact aG (aG (aG (aG (HB.out) hge_) hge_) hge_) hge_); have hbk_ : w3.heap[gb2]? = some (.cells #[.slice A0_0 l0_0.length c0_0, .slice A0_1 l0_1.length c0_1, .int .i64 a0_2, .bool a0_3] 25 (0, 0)) := (by rw [hw_]; exact aX (cs := #[.slice A0_0 l0_0.length c0_0, .slice A0_1 l0_1.length c0_1, .int .i64 a0_2, .bool false]) (cs' := #[.slice A0_0 l0_0.length c0_0, .slice A0_1 l0_1.length c0_1, .int .i64 a0_2, .bool a0_3]) (aX (cs := #[.slice A0_0 l0_0.length c0_0, .slice A0_1 l0_1.length c0_1, .int .i64 0, .bool false]) (cs' := #[.slice A0_0 l0_0.length c0_0, .slice A0_1 l0_1.length c0_1, .int .i64 a0_2, .bool false]) (aX (cs := #[.slice A0_0 l0_0.length c0_0, .slice none 0 0, .int .i64 0, .bool false]) (cs' := #[.slice A0_0 l0_0.length c0_0, .slice A0_1 l0_1.length c0_1, .int .i64 0, .bool false]) (aX (cs := #[.slice none 0 0, .slice none 0 0, .int .i64 0, .bool false]) (cs' := #[.slice A0_0 l0_0.length c0_0, .slice none 0 0, .int .i64 0, .bool false]) (BK2.out) 0 _ rfl) 1 _ rfl) 2 _ rfl) 3 _ rfl); have hsz_ : (gb2 + 1) ≤ w3.heap.size := Nat.le_trans HT.out hkp.1; have n0_ := aC.mk (bA BK1.out hkp (fun h2_ => by have o_ := HORD.out; have t_ := HT.out; (try simp only [In2, Up, In, Ex, Exb] at h2_); omega)); have n1_ := aC.mk (hbn_); have n2_ := aC.mk (hbk_); have n3_ := aC.mk (hsz_); (try clear BK1); (try clear HB); (try clear BK2); (try clear HT); have BK1 := n0_; have HB := n1_; have BK2 := n2_; have HT := n3_; clear n0_ n1_ n2_ n3_; clear hw_ hkp hge_ hbn_ hbk_ hsz_; have hzgb1_0_3 : w3.cell? ⟨gb1, 0, none⟩ = some (.slice A0_0 l0_0.length c0_0) := (aD BK1.out 0).trans rfl; have hygb1_0_3 := aA BK1.out 0; have hzgb1_1_3 : w3.cell? ⟨gb1, 1, none⟩ = some (.slice A0_1 l0_1.length c0_1) := (aD BK1.out 1).trans rfl; have hygb1_1_3 := aA BK1.out 1; have hzgb1_2_3 : w3.cell? ⟨gb1, 2, none⟩ = some (.int .i64 a0_2) := (aD BK1.out 2).trans rfl; have hygb1_2_3 := aA BK1.out 2; have hzgb1_3_3 : w3.cell? ⟨gb1, 3, none⟩ = some (.bool a0_3) := (aD BK1.out 3).trans rfl; have hygb1_3_3 := aA BK1.out 3; have hzgb2_0_3 : w3.cell? ⟨gb2, 0, none⟩ = some (.slice A0_0 l0_0.length c0_0) := (aD BK2.out 0).trans rfl; have hygb2_0_3 := aA BK2.out 0; have hzgb2_1_3 : w3.cell? ⟨gb2, 1, none⟩ = some (.slice A0_1 l0_1.length c0_1) := (aD BK2.out 1).trans rfl; have hygb2_1_3 := aA BK2.out 1; have hzgb2_2_3 : w3.cell? ⟨gb2, 2, none⟩ = some (.int .i64 a0_2) := (aD BK2.out 2).trans rfl; have hygb2_2_3 := aA BK2.out 2; have hzgb2_3_3 : w3.cell? ⟨gb2, 3, none⟩ = some (.bool a0_3) := (aD BK2.out 3).trans rfl; have hygb2_3_3 := aA BK2.out 3))
 refine bodyPost_ret (results_ct rfl _ _ gb2 25 #[.slice A0_0 l0_0.length c0_0, .slice A0_1 l0_1.length c0_1, .int .i64 a0_2, .bool a0_3] (0, 0) _ rfl BK2.out Try.underlying25 rfl (by kernel_rfl)) rfl ?_
 exact ⟨rfl, HB.out⟩
def impl_burnS.f (a0_2 : Int) (a0_3 : Bool) : Option (Int × Bool × Bool) := some (burnF a0_2 a0_3)
theorem impl_burnS.calls (A0_0 : Option Addr) (c0_0 : Nat) (l0_0 : List (List Int)) (A0_1 : Option Addr) (c0_1 : Nat) (l0_1 : List (S50)) (a0_2 : Int) (a0_3 : Bool) (r1 : Int) (r2 : Bool) (r3 : Bool) (w : World) (h : impl_burnS.f a0_2 a0_3 = some (r1, r2, r3)) :
  Calls Try.prog 59 #[.agg #[.slice A0_0 l0_0.length c0_0, .slice A0_1 l0_1.length c0_1, .int .i64 a0_2, .bool a0_3]] w fun e w' => e = .returned (.tuple #[.agg #[.slice A0_0 l0_0.length c0_0, .slice A0_1 l0_1.length c0_1, .int .i64 r1, .bool r2], .bool r3]) ∧ Below w.heap.size w w' := by
 unfold impl_burnS.f burnF at h
 replace h := Option.some.inj h
 by_cases h0 : a0_2 = 0
 ·rw [if_pos h0] at h
  subst h0
  simp only [Prod.mk.injEq] at h
  obtain ⟨rfl, rfl, rfl⟩ := h
  exact walk_burn0 _ _ _ _ _ _ _ w
 ·rw [if_neg h0] at h
  by_cases h1 : 0 < a0_2
  ·rw [if_pos h1] at h
   simp only [Prod.mk.injEq] at h
   obtain ⟨rfl, rfl, rfl⟩ := h
   exact walk_burn1 _ _ _ _ _ _ _ _ w h1
  ·rw [if_neg h1] at h
   simp only [Prod.mk.injEq] at h
   obtain ⟨rfl, rfl, rfl⟩ := h
   exact walk_burn2 _ _ _ _ _ _ _ _ w (by omega)
end Go.Proofs.Ytilhcaofpfeioaa.Law
