/- The law: the functions that it reaches, each with the proof that the machine's call comes to its answer, what they answer, and the law's row; each theorem says its conditions itself. -/
import Derived.Test.YtilhcaofpfeioaaZFnExactFlushDev3
namespace Go.Proofs.Ytilhcaofpfeioaa.Law
open Go.RowKit Go.Proofs.Ytilhcaofpfeioaa.PFnExactFlushDev Go.Proofs.Ytilhcaofpfeioaa.Core Go.Proofs.YtilhcaofpfeioaaW.PrintWords Go.Proofs.YtilhcaofpfeioaaW.PrintLast Go.Proofs.YtilhcaofpfeioaaW.PrintMore Go.Proofs.Ytilhcaofpfeioaa.Pure
set_option linter.unusedSimpArgs false
set_option linter.unusedVariables false
set_option maxHeartbeats 8000000 in
set_option maxRecDepth 100000 in
theorem walk_l2Op0 (u0_ u1_ : Value) (a0_3 : Bool) (w wi : World) (g : Nat) (hB : Below w.heap.size w wi) (hbk : wi.heap[g]? = some (.cells #[u0_, u1_, .int .i64 0, .bool a0_3] 25 (0, 0))) (hgg : w.heap.size ≤ g) :
  Calls Try.prog 72 #[.pointer (some ⟨g, 0, none⟩)] wi fun e w' => e = .returned (.bool false) ∧ w'.heap[g]? = some (.cells #[u0_, u1_, .int .i64 (-1), .bool true] 25 (0, 0)) ∧ Below w.heap.size w w' ∧ Kept wi w' (fun k_ => k_ = g) := by
 have hu25 := Try.underlying25
 have HB := aC.mk hB
 have BKg := aC.mk hbk
 have HKP := aC.mk (Kept.refl wi (fun k_ => k_ = g))
 have HORD := aC.mk (And.intro hgg (Nat.le_succ g))
 have HT := aC.mk (show g + 1 ≤ wi.heap.size from bG hbk)
 clear hB hbk
 go_enter Try.func72, Try.ntmps72
 have hzg_0_0 : wi.cell? ⟨g, 0, none⟩ = some (u0_) := (aD BKg.out 0).trans rfl
 have hyg_0_0 := aA BKg.out 0
 have hzg_1_0 : wi.cell? ⟨g, 1, none⟩ = some (u1_) := (aD BKg.out 1).trans rfl
 have hyg_1_0 := aA BKg.out 1
 have hzg_2_0 : wi.cell? ⟨g, 2, none⟩ = some (.int .i64 0) := (aD BKg.out 2).trans rfl
 have hyg_2_0 := aA BKg.out 2
 have hzg_3_0 : wi.cell? ⟨g, 3, none⟩ = some (.bool a0_3) := (aD BKg.out 3).trans rfl
 have hyg_3_0 := aA BKg.out 3
 go_wp2_with (first | ((with_reducible refine bP (t := 4) (p := 10) rfl ?_); refine bK (t := 4) (p := 10) (v := ?vo_w1) (w1 := (wi.setCell ⟨g, 3, none⟩ (.bool true))) ?hg ?ho ?hn ?hr ?_; (case ho => rfl); (case hg => rfl); (case hn => rfl); (case hr => first | (go_simp; done) | (go_simp; rfl)); intro w1 hw_; have hkp : Kept wi w1 (fun k_ => k_ = g) := (by rw [hw_]; exact Kept.setCell (Kept.refl wi (fun k_ => k_ = g)) (.inl rfl) (.bool true)); have hge_ : w.heap.size ≤ g := (by have o_ := HORD.out; (try unfold In at *); (try show _ ≠ _); omega); have hbn_ : Below w.heap.size w w1 := (by rw [hw_]; exact aG (HB.out) hge_); have hbk_ : w1.heap[g]? = some (.cells #[u0_, u1_, .int .i64 0, .bool true] 25 (0, 0)) := (by rw [hw_]; exact aX (cs := #[u0_, u1_, .int .i64 0, .bool a0_3]) (cs' := #[u0_, u1_, .int .i64 0, .bool true]) (BKg.out) 3 _ rfl); have hsz_ : (g + 1) ≤ w1.heap.size := Nat.le_trans HT.out hkp.1; have n0_ := aC.mk (HKP.out.then_ hkp (fun k_ h_ => by have o_ := HORD.out; have t_ := HT.out; (try simp only [In2, Up, In, Ex, Exb] at h_ ⊢); omega)); have n1_ := aC.mk (hbn_); have n2_ := aC.mk (hbk_); have n3_ := aC.mk (hsz_); (try clear HKP); (try clear HB); (try clear BKg); (try clear HT); have HKP := n0_; have HB := n1_; have BKg := n2_; have HT := n3_; clear n0_ n1_ n2_ n3_; clear hw_ hkp hge_ hbn_ hbk_ hsz_; have hzg_0_1 : w1.cell? ⟨g, 0, none⟩ = some (u0_) := (aD BKg.out 0).trans rfl; have hyg_0_1 := aA BKg.out 0; have hzg_1_1 : w1.cell? ⟨g, 1, none⟩ = some (u1_) := (aD BKg.out 1).trans rfl; have hyg_1_1 := aA BKg.out 1; have hzg_2_1 : w1.cell? ⟨g, 2, none⟩ = some (.int .i64 0) := (aD BKg.out 2).trans rfl; have hyg_2_1 := aA BKg.out 2; have hzg_3_1 : w1.cell? ⟨g, 3, none⟩ = some (.bool true) := (aD BKg.out 3).trans rfl; have hyg_3_1 := aA BKg.out 3) | ((with_reducible refine bP (t := 3) (p := 13) rfl ?_); refine bK (t := 3) (p := 13) (v := ?vo_w2) (w1 := (w1.setCell ⟨g, 2, none⟩ (.int .i64 ((-1))))) ?hg ?ho ?hn ?hr ?_; (case ho => rfl); (case hg => rfl); (case hn => rfl); (case hr => first | (go_simp; done) | (go_simp; rfl)); intro w2 hw_; have hkp : Kept w1 w2 (fun k_ => k_ = g) := (by rw [hw_]; exact Kept.setCell (Kept.refl w1 (fun k_ => k_ = g)) (.inl rfl) (.int .i64 ((-1)))); have hge_ : w.heap.size ≤ g := (by have o_ := HORD.out; (try unfold In at *); (try show _ ≠ _); omega); have hbn_ : Below w.heap.size w w2 := (by rw [hw_]; exact aG (HB.out) hge_); have hbk_ : w2.heap[g]? = some (.cells #[u0_, u1_, .int .i64 ((-1)), .bool true] 25 (0, 0)) := (by rw [hw_]; exact aX (cs := #[u0_, u1_, .int .i64 0, .bool true]) (cs' := #[u0_, u1_, .int .i64 ((-1)), .bool true]) (BKg.out) 2 _ rfl); have hsz_ : (g + 1) ≤ w2.heap.size := Nat.le_trans HT.out hkp.1; have n0_ := aC.mk (HKP.out.then_ hkp (fun k_ h_ => by have o_ := HORD.out; have t_ := HT.out; (try simp only [In2, Up, In, Ex, Exb] at h_ ⊢); omega)); have n1_ := aC.mk (hbn_); have n2_ := aC.mk (hbk_); have n3_ := aC.mk (hsz_); (try clear HKP); (try clear HB); (try clear BKg); (try clear HT); have HKP := n0_; have HB := n1_; have BKg := n2_; have HT := n3_; clear n0_ n1_ n2_ n3_; clear hw_ hkp hge_ hbn_ hbk_ hsz_; have hzg_0_2 : w2.cell? ⟨g, 0, none⟩ = some (u0_) := (aD BKg.out 0).trans rfl; have hyg_0_2 := aA BKg.out 0; have hzg_1_2 : w2.cell? ⟨g, 1, none⟩ = some (u1_) := (aD BKg.out 1).trans rfl; have hyg_1_2 := aA BKg.out 1; have hzg_2_2 : w2.cell? ⟨g, 2, none⟩ = some (.int .i64 ((-1))) := (aD BKg.out 2).trans rfl; have hyg_2_2 := aA BKg.out 2; have hzg_3_2 : w2.cell? ⟨g, 3, none⟩ = some (.bool true) := (aD BKg.out 3).trans rfl; have hyg_3_2 := aA BKg.out 3))
 have hres_ := @results_tmp Try.f72 2 (by kernel_rfl)
 refine bodyPost_ret (fn := Try.f72) (P := Try.prog) (hres_ _ _ _) rfl ?_
 exact ⟨rfl, BKg.out, HB.out, HKP.out⟩
set_option maxHeartbeats 8000000 in
set_option maxRecDepth 100000 in
theorem walk_l2Op1 (u0_ u1_ : Value) (a0_2 : Int) (a0_3 : Bool) (w wi : World) (g : Nat) (hB : Below w.heap.size w wi) (hbk : wi.heap[g]? = some (.cells #[u0_, u1_, .int .i64 a0_2, .bool a0_3] 25 (0, 0))) (hgg : w.heap.size ≤ g) (hp0 : 0 < a0_2) :
  Calls Try.prog 72 #[.pointer (some ⟨g, 0, none⟩)] wi fun e w' => e = .returned (.bool true) ∧ w'.heap[g]? = some (.cells #[u0_, u1_, .int .i64 (wrap64 (a0_2 - 1)), .bool a0_3] 25 (0, 0)) ∧ Below w.heap.size w w' ∧ Kept wi w' (fun k_ => k_ = g) := by
 have hu25 := Try.underlying25
 have HB := aC.mk hB
 have BKg := aC.mk hbk
 have HKP := aC.mk (Kept.refl wi (fun k_ => k_ = g))
 have HORD := aC.mk (And.intro hgg (Nat.le_succ g))
 have HT := aC.mk (show g + 1 ≤ wi.heap.size from bG hbk)
 have d1_ : (a0_2 == 0) = false := beq_eq_false_iff_ne.mpr (by omega)
 have d2_ : decide (0 < a0_2) = true := decide_eq_true hp0
 clear hB hbk
 go_enter Try.func72, Try.ntmps72
 have hzg_0_0 : wi.cell? ⟨g, 0, none⟩ = some (u0_) := (aD BKg.out 0).trans rfl
 have hyg_0_0 := aA BKg.out 0
 have hzg_1_0 : wi.cell? ⟨g, 1, none⟩ = some (u1_) := (aD BKg.out 1).trans rfl
 have hyg_1_0 := aA BKg.out 1
 have hzg_2_0 : wi.cell? ⟨g, 2, none⟩ = some (.int .i64 a0_2) := (aD BKg.out 2).trans rfl
 have hyg_2_0 := aA BKg.out 2
 have hzg_3_0 : wi.cell? ⟨g, 3, none⟩ = some (.bool a0_3) := (aD BKg.out 3).trans rfl
 have hyg_3_0 := aA BKg.out 3
 go_wp2_with (first | ((with_reducible refine bP (t := 3) (p := 26) rfl ?_); refine bK (t := 3) (p := 26) (v := ?vo_w1) (w1 := (wi.setCell ⟨g, 2, none⟩ (.int .i64 ((wrap64 (a0_2 - 1)))))) ?hg ?ho ?hn ?hr ?_; (case ho => rfl); (case hg => rfl); (case hn => rfl); (case hr => first | (go_simp; done) | (go_simp; rfl)); intro w1 hw_; have hkp : Kept wi w1 (fun k_ => k_ = g) := (by rw [hw_]; exact Kept.setCell (Kept.refl wi (fun k_ => k_ = g)) (.inl rfl) (.int .i64 ((wrap64 (a0_2 - 1))))); have hge_ : w.heap.size ≤ g := (by have o_ := HORD.out; (try unfold In at *); (try show _ ≠ _); omega); have hbn_ : Below w.heap.size w w1 := (by rw [hw_]; exact aG (HB.out) hge_); have hbk_ : w1.heap[g]? = some (.cells #[u0_, u1_, .int .i64 ((wrap64 (a0_2 - 1))), .bool a0_3] 25 (0, 0)) := (by rw [hw_]; exact aX (cs := #[u0_, u1_, .int .i64 a0_2, .bool a0_3]) (cs' := #[u0_, u1_, .int .i64 ((wrap64 (a0_2 - 1))), .bool a0_3]) (BKg.out) 2 _ rfl); have hsz_ : (g + 1) ≤ w1.heap.size := Nat.le_trans HT.out hkp.1; have n0_ := aC.mk (HKP.out.then_ hkp (fun k_ h_ => by have o_ := HORD.out; have t_ := HT.out; (try simp only [In2, Up, In, Ex, Exb] at h_ ⊢); omega)); have n1_ := aC.mk (hbn_); have n2_ := aC.mk (hbk_); have n3_ := aC.mk (hsz_); (try clear HKP); (try clear HB); (try clear BKg); (try clear HT); have HKP := n0_; have HB := n1_; have BKg := n2_; have HT := n3_; clear n0_ n1_ n2_ n3_; clear hw_ hkp hge_ hbn_ hbk_ hsz_; have hzg_0_1 : w1.cell? ⟨g, 0, none⟩ = some (u0_) := (aD BKg.out 0).trans rfl; have hyg_0_1 := aA BKg.out 0; have hzg_1_1 : w1.cell? ⟨g, 1, none⟩ = some (u1_) := (aD BKg.out 1).trans rfl; have hyg_1_1 := aA BKg.out 1; have hzg_2_1 : w1.cell? ⟨g, 2, none⟩ = some (.int .i64 ((wrap64 (a0_2 - 1)))) := (aD BKg.out 2).trans rfl; have hyg_2_1 := aA BKg.out 2; have hzg_3_1 : w1.cell? ⟨g, 3, none⟩ = some (.bool a0_3) := (aD BKg.out 3).trans rfl; have hyg_3_1 := aA BKg.out 3))
 have hres_ := @results_tmp Try.f72 2 (by kernel_rfl)
 refine bodyPost_ret (fn := Try.f72) (P := Try.prog) (hres_ _ _ _) rfl ?_
 exact ⟨rfl, BKg.out, HB.out, HKP.out⟩
set_option maxHeartbeats 8000000 in
set_option maxRecDepth 100000 in
theorem walk_l2Op2 (u0_ u1_ : Value) (a0_2 : Int) (a0_3 : Bool) (w wi : World) (g : Nat) (hB : Below w.heap.size w wi) (hbk : wi.heap[g]? = some (.cells #[u0_, u1_, .int .i64 a0_2, .bool a0_3] 25 (0, 0))) (hgg : w.heap.size ≤ g) (hp0 : a0_2 < 0) :
  Calls Try.prog 72 #[.pointer (some ⟨g, 0, none⟩)] wi fun e w' => e = .returned (.bool true) ∧ w'.heap[g]? = some (.cells #[u0_, u1_, .int .i64 a0_2, .bool a0_3] 25 (0, 0)) ∧ Below w.heap.size w w' ∧ Kept wi w' (fun k_ => k_ = g) := by
 have hu25 := Try.underlying25
 have HB := aC.mk hB
 have BKg := aC.mk hbk
 have HKP := aC.mk (Kept.refl wi (fun k_ => k_ = g))
 have HORD := aC.mk (And.intro hgg (Nat.le_succ g))
 have HT := aC.mk (show g + 1 ≤ wi.heap.size from bG hbk)
 have d1_ : (a0_2 == 0) = false := beq_eq_false_iff_ne.mpr (by omega)
 have d2_ : decide (0 < a0_2) = false := decide_eq_false (by omega)
 clear hB hbk
 go_enter Try.func72, Try.ntmps72
 have hzg_0_0 : wi.cell? ⟨g, 0, none⟩ = some (u0_) := (aD BKg.out 0).trans rfl
 have hyg_0_0 := aA BKg.out 0
 have hzg_1_0 : wi.cell? ⟨g, 1, none⟩ = some (u1_) := (aD BKg.out 1).trans rfl
 have hyg_1_0 := aA BKg.out 1
 have hzg_2_0 : wi.cell? ⟨g, 2, none⟩ = some (.int .i64 a0_2) := (aD BKg.out 2).trans rfl
 have hyg_2_0 := aA BKg.out 2
 have hzg_3_0 : wi.cell? ⟨g, 3, none⟩ = some (.bool a0_3) := (aD BKg.out 3).trans rfl
 have hyg_3_0 := aA BKg.out 3
 try go_wp2
 have hres_ := @results_tmp Try.f72 2 (by kernel_rfl)
 refine bodyPost_ret (fn := Try.f72) (P := Try.prog) (hres_ _ _ _) rfl ?_
 exact ⟨rfl, BKg.out, HB.out, HKP.out⟩
theorem spec_l2OpS.calls (u0_ u1_ : Value) (a0_2 : Int) (a0_3 : Bool) (r1 : Int) (r2 : Bool) (r3 : Bool) (w wi : World) (g : Nat) (hB : Below w.heap.size w wi) (hbk : wi.heap[g]? = some (.cells #[u0_, u1_, .int .i64 a0_2, .bool a0_3] 25 (0, 0))) (hgg : w.heap.size ≤ g) (h : burnF a0_2 a0_3 = (r1, r2, r3)) :
  Calls Try.prog 72 #[.pointer (some ⟨g, 0, none⟩)] wi fun e w' => e = .returned (.bool r3) ∧ w'.heap[g]? = some (.cells #[u0_, u1_, .int .i64 r1, .bool r2] 25 (0, 0)) ∧ Below w.heap.size w w' ∧ Kept wi w' (fun k_ => k_ = g) := by
 unfold burnF at h
 by_cases h0 : a0_2 = 0
 ·rw [if_pos h0] at h
  subst h0
  simp only [Prod.mk.injEq] at h
  obtain ⟨rfl, rfl, rfl⟩ := h
  exact walk_l2Op0 _ _ _ w wi g hB hbk hgg
 ·rw [if_neg h0] at h
  by_cases h1 : 0 < a0_2
  ·rw [if_pos h1] at h
   simp only [Prod.mk.injEq] at h
   obtain ⟨rfl, rfl, rfl⟩ := h
   exact walk_l2Op1 _ _ _ _ w wi g hB hbk hgg h1
  ·rw [if_neg h1] at h
   simp only [Prod.mk.injEq] at h
   obtain ⟨rfl, rfl, rfl⟩ := h
   exact walk_l2Op2 _ _ _ _ w wi g hB hbk hgg (by omega)
def FlPost (w wi w' : World) (a g gS : Nat) (s : List (List Int)) (c : List (S50)) (f : Int) (d : Bool) : Prop := ∃ (u0 u1 : Value) (gn : Nat), w'.heap[g]? = some (.cells #[u0, u1, .int .i64 f, .bool d] 25 (0, 0)) ∧ (∀ k, u1.ownBlock = some k → k = gn) ∧ (gn < w'.heap.size ∧ g ≠ gn) ∧ Kd.N (Kd.slice 5 (Kd.int .u8)) 37 w' w.heap.size (Ex a gn g) u0 s ∧ Kd.N k50 50 w' w.heap.size (Ex a gS g) u1 c ∧ Below w.heap.size w w' ∧ Kept wi w' (fun k => a ≤ k)
set_option maxHeartbeats 8000000 in
set_option maxRecDepth 100000 in
theorem walk_l2Flush1 (A0_0 : Option Addr) (c0_0 : Nat) (l0_0 : List (List Int)) (A0_1 : Option Addr) (c0_1 : Nat) (l0_1 : List (S50)) (a0_2 : Int) (w wi : World) (g : Nat) (hB : Below w.heap.size w wi) (hbk : wi.heap[g]? = some (.cells #[.slice A0_0 l0_0.length c0_0, .slice A0_1 l0_1.length c0_1, .int .i64 a0_2, .bool true] 25 (0, 0))) (a gS gC : Nat) (hwa : w.heap.size ≤ a ∧ 0 < a) (hag : a ≤ g) (hSt : gS < wi.heap.size ∧ g ≠ gS) (hCt : gC < wi.heap.size ∧ g ≠ gC) (hgC : ∀ k_, (Value.slice A0_1 l0_1.length c0_1).ownBlock = some k_ → k_ = gC) (hgS : ∀ k_, (Value.slice A0_0 l0_0.length c0_0).ownBlock = some k_ → k_ = gS) (hn0 : Kd.N (Kd.slice 5 (Kd.int .u8)) 37 wi w.heap.size (Ex a gC g) (.slice A0_0 l0_0.length c0_0) l0_0) (hn1 : Kd.N k50 50 wi w.heap.size (Ex a gS g) (.slice A0_1 l0_1.length c0_1) l0_1) :
  Calls Try.prog 60 #[.pointer (some ⟨g, 0, none⟩)] wi fun e w' => e = .returned (.tuple #[]) ∧ FlPost w wi w' a g gS l0_0 l0_1 a0_2 true := by
 have hu25 := Try.underlying25
 have hu50 := Try.underlying50
 have HB := aC.mk hB
 have BKg := aC.mk hbk
 have HKP := aC.mk (Kept.refl wi (fun k_ => a ≤ k_))
 obtain ⟨top, et_⟩ : ∃ n_, n_ = wi.heap.size := ⟨_, rfl⟩
 have HORD := aC.mk (show ((w.heap.size ≤ a ∧ 0 < a) ∧ a ≤ g) ∧ g + 1 ≤ top ∧ (gS < top ∧ g ≠ gS) ∧ (gC < top ∧ g ≠ gC) from ⟨⟨hwa, hag⟩, by rw [et_]; exact bG hbk, by rw [et_]; exact hSt, by rw [et_]; exact hCt⟩)
 have HT := aC.mk (Nat.le_of_eq et_)
 have HN0 := aC.mk (Kd.N_mono (ok' := Exb a gC g top) (Kd.N_bound hn0) (fun k_ hk_ => ⟨hk_.1, by rw [et_]; exact hk_.2⟩))
 have HN1 := aC.mk (Kd.N_mono (ok' := Exb a gS g top) (Kd.N_bound hn1) (fun k_ hk_ => ⟨hk_.1, by rw [et_]; exact hk_.2⟩))
 have HGC := aC.mk hgC
 have HGS := aC.mk hgS
 have HTE := aC.mk et_
 clear hn0 hn1 hgC hgS et_ hwa hag hSt hCt
 clear hB hbk
 go_enter Try.func60, Try.ntmps60
 have hzg_0_0 : wi.cell? ⟨g, 0, none⟩ = some (.slice A0_0 l0_0.length c0_0) := (aD BKg.out 0).trans rfl
 have hyg_0_0 := aA BKg.out 0
 have hzg_1_0 : wi.cell? ⟨g, 1, none⟩ = some (.slice A0_1 l0_1.length c0_1) := (aD BKg.out 1).trans rfl
 have hyg_1_0 := aA BKg.out 1
 have hzg_2_0 : wi.cell? ⟨g, 2, none⟩ = some (.int .i64 a0_2) := (aD BKg.out 2).trans rfl
 have hyg_2_0 := aA BKg.out 2
 have hzg_3_0 : wi.cell? ⟨g, 3, none⟩ = some (.bool true) := (aD BKg.out 3).trans rfl
 have hyg_3_0 := aA BKg.out 3
 try go_wp2
 first | go_end0 | refine bodyPost_ret (fn := Try.f60) (results_none rfl _ _ _) rfl ?_
 exact ⟨rfl, by unfold FlPost; exact ⟨_, _, gC, BKg.out, HGC.out, (by have o_ := HORD.out; have t_ := HT.out; omega), Kd.N_mono HN0.out (fun k_ hk_ => by have o_ := HORD.out; have t_ := HT.out; (try simp only [In2, Up, In, Ex, Exb] at hk_ ⊢); omega), Kd.N_mono HN1.out (fun k_ hk_ => by have o_ := HORD.out; have t_ := HT.out; (try simp only [In2, Up, In, Ex, Exb] at hk_ ⊢); omega), HB.out, HKP.out⟩⟩
set_option maxHeartbeats 8000000 in
set_option maxRecDepth 100000 in
theorem walk_l2Flush2 (A0_0 : Option Addr) (c0_0 : Nat) (l0_0 : List (List Int)) (A0_1 : Option Addr) (c0_1 : Nat) (l0_1 : List (S50)) (a0_2 : Int) (w wi : World) (g : Nat) (hB : Below w.heap.size w wi) (hbk : wi.heap[g]? = some (.cells #[.slice A0_0 l0_0.length c0_0, .slice A0_1 l0_1.length c0_1, .int .i64 a0_2, .bool false] 25 (0, 0))) (a gS gC : Nat) (hwa : w.heap.size ≤ a ∧ 0 < a) (hag : a ≤ g) (hSt : gS < wi.heap.size ∧ g ≠ gS) (hCt : gC < wi.heap.size ∧ g ≠ gC) (hgC : ∀ k_, (Value.slice A0_1 l0_1.length c0_1).ownBlock = some k_ → k_ = gC) (hgS : ∀ k_, (Value.slice A0_0 l0_0.length c0_0).ownBlock = some k_ → k_ = gS) (hn0 : Kd.N (Kd.slice 5 (Kd.int .u8)) 37 wi w.heap.size (Ex a gC g) (.slice A0_0 l0_0.length c0_0) l0_0) (hn1 : Kd.N k50 50 wi w.heap.size (Ex a gS g) (.slice A0_1 l0_1.length c0_1) l0_1) (f1 : Int) (b1 : Bool) (hbu : burnF a0_2 false = (f1, b1, false)) :
  Calls Try.prog 60 #[.pointer (some ⟨g, 0, none⟩)] wi fun e w' => e = .returned (.tuple #[]) ∧ FlPost w wi w' a g gS l0_0 l0_1 f1 b1 := by
 have hu25 := Try.underlying25
 have hu50 := Try.underlying50
 have HB := aC.mk hB
 have BKg := aC.mk hbk
 have HKP := aC.mk (Kept.refl wi (fun k_ => a ≤ k_))
 obtain ⟨top, et_⟩ : ∃ n_, n_ = wi.heap.size := ⟨_, rfl⟩
 have HORD := aC.mk (show ((w.heap.size ≤ a ∧ 0 < a) ∧ a ≤ g) ∧ g + 1 ≤ top ∧ (gS < top ∧ g ≠ gS) ∧ (gC < top ∧ g ≠ gC) from ⟨⟨hwa, hag⟩, by rw [et_]; exact bG hbk, by rw [et_]; exact hSt, by rw [et_]; exact hCt⟩)
 have HT := aC.mk (Nat.le_of_eq et_)
 have HN0 := aC.mk (Kd.N_mono (ok' := Exb a gC g top) (Kd.N_bound hn0) (fun k_ hk_ => ⟨hk_.1, by rw [et_]; exact hk_.2⟩))
 have HN1 := aC.mk (Kd.N_mono (ok' := Exb a gS g top) (Kd.N_bound hn1) (fun k_ hk_ => ⟨hk_.1, by rw [et_]; exact hk_.2⟩))
 have HGC := aC.mk hgC
 have HGS := aC.mk hgS
 have HTE := aC.mk et_
 clear hn0 hn1 hgC hgS et_ hwa hag hSt hCt
 have JO := aC.mk hbu
 clear hB hbk
 go_enter Try.func60, Try.ntmps60
 have hzg_0_0 : wi.cell? ⟨g, 0, none⟩ = some (.slice A0_0 l0_0.length c0_0) := (aD BKg.out 0).trans rfl
 have hyg_0_0 := aA BKg.out 0
 have hzg_1_0 : wi.cell? ⟨g, 1, none⟩ = some (.slice A0_1 l0_1.length c0_1) := (aD BKg.out 1).trans rfl
 have hyg_1_0 := aA BKg.out 1
 have hzg_2_0 : wi.cell? ⟨g, 2, none⟩ = some (.int .i64 a0_2) := (aD BKg.out 2).trans rfl
 have hyg_2_0 := aA BKg.out 2
 have hzg_3_0 : wi.cell? ⟨g, 3, none⟩ = some (.bool false) := (aD BKg.out 3).trans rfl
 have hyg_3_0 := aA BKg.out 3
 go_wp2_with (first | ((with_reducible refine aY (f := 72) rfl ?_); refine gate_guard (by first | rfl | kernel_rfl) ?_; refine bJ (some 9) rfl rfl Try.func72 (by kernel_rfl) rfl #[.pointer (some ⟨g, 0, none⟩)] rfl (by (try simp only [List.map_toArray, List.map_cons, List.map_nil]); first | done | rfl | (simp only [List.length_drop, List.length_take]; rfl)) ?_; (with_reducible refine (spec_l2OpS.calls (.slice A0_0 l0_0.length c0_0) (.slice A0_1 l0_1.length c0_1) _ _ f1 b1 false w _ g ?s1 ?s2 ?s3 JO.out).mono ?_); (case s1 => exact HB.out); (case s2 => exact BKg.out); (case s3 => exact (by have o_ := HORD.out; omega)); rintro e_ w1 ⟨rfl, hbk_, hbn_, hkp⟩; refine ⟨_, rfl, ?_⟩; have n0_ := aC.mk (Kd.N_kept HN0.out hkp (fun k_ h1_ h2_ => by have o_ := HORD.out; have t_ := HT.out; (try simp only [In2, Up, In, Ex, Exb] at h1_ h2_); omega)); have n1_ := aC.mk (Kd.N_kept HN1.out hkp (fun k_ h1_ h2_ => by have o_ := HORD.out; have t_ := HT.out; (try simp only [In2, Up, In, Ex, Exb] at h1_ h2_); omega)); have n2_ := aC.mk (HKP.out.then_ hkp (fun k_ h_ => by have o_ := HORD.out; have t_ := HT.out; (try simp only [In2, Up, In, Ex, Exb] at h_ ⊢); omega)); have n3_ := aC.mk (hbn_); have n4_ := aC.mk (hbk_); have n5_ := aC.mk (Nat.le_trans HT.out hkp.1); (try clear HN0); (try clear HN1); (try clear HKP); (try clear HB); (try clear BKg); (try clear HT); have HN0 := n0_; have HN1 := n1_; have HKP := n2_; have HB := n3_; have BKg := n4_; have HT := n5_; clear n0_ n1_ n2_ n3_ n4_ n5_; clear hbk_ hbn_ hkp; have hzg_0_1 : w1.cell? ⟨g, 0, none⟩ = some (.slice A0_0 l0_0.length c0_0) := (aD BKg.out 0).trans rfl; have hyg_0_1 := aA BKg.out 0; have hzg_1_1 : w1.cell? ⟨g, 1, none⟩ = some (.slice A0_1 l0_1.length c0_1) := (aD BKg.out 1).trans rfl; have hyg_1_1 := aA BKg.out 1; have hzg_2_1 : w1.cell? ⟨g, 2, none⟩ = some (.int .i64 f1) := (aD BKg.out 2).trans rfl; have hyg_2_1 := aA BKg.out 2; have hzg_3_1 : w1.cell? ⟨g, 3, none⟩ = some (.bool b1) := (aD BKg.out 3).trans rfl; have hyg_3_1 := aA BKg.out 3))
 first | go_end0 | refine bodyPost_ret (fn := Try.f60) (results_none rfl _ _ _) rfl ?_
 exact ⟨rfl, by unfold FlPost; exact ⟨_, _, gC, BKg.out, HGC.out, (by have o_ := HORD.out; have t_ := HT.out; omega), Kd.N_mono HN0.out (fun k_ hk_ => by have o_ := HORD.out; have t_ := HT.out; (try simp only [In2, Up, In, Ex, Exb] at hk_ ⊢); omega), Kd.N_mono HN1.out (fun k_ hk_ => by have o_ := HORD.out; have t_ := HT.out; (try simp only [In2, Up, In, Ex, Exb] at hk_ ⊢); omega), HB.out, HKP.out⟩⟩
set_option maxHeartbeats 8000000 in
set_option maxRecDepth 100000 in
theorem walk_l2Flush3 (A0_0 : Option Addr) (c0_0 : Nat) (l0_0 : List (List Int)) (A0_1 : Option Addr) (c0_1 : Nat) (l0_1 : List (S50)) (a0_2 : Int) (w wi : World) (g : Nat) (hB : Below w.heap.size w wi) (hbk : wi.heap[g]? = some (.cells #[.slice A0_0 l0_0.length c0_0, .slice A0_1 l0_1.length c0_1, .int .i64 a0_2, .bool false] 25 (0, 0))) (a gS gC : Nat) (hwa : w.heap.size ≤ a ∧ 0 < a) (hag : a ≤ g) (hSt : gS < wi.heap.size ∧ g ≠ gS) (hCt : gC < wi.heap.size ∧ g ≠ gC) (hgC : ∀ k_, (Value.slice A0_1 l0_1.length c0_1).ownBlock = some k_ → k_ = gC) (hgS : ∀ k_, (Value.slice A0_0 l0_0.length c0_0).ownBlock = some k_ → k_ = gS) (hn0 : Kd.N (Kd.slice 5 (Kd.int .u8)) 37 wi w.heap.size (Ex a gC g) (.slice A0_0 l0_0.length c0_0) l0_0) (hn1 : Kd.N k50 50 wi w.heap.size (Ex a gS g) (.slice A0_1 l0_1.length c0_1) l0_1) (hl1 : l0_1.length ≤ 4194304) (hin : ∀ {x : Int} (i : Nat), x = (i : Int) → i < l0_1.length → 0 ≤ (rdW l0_1 x).f0 ∧ (rdW l0_1 x).f0 < (l0_0.length : Int)) (f1 : Int) (b1 : Bool) (hbu : burnF a0_2 false = (f1, b1, true)) :
  Calls Try.prog 60 #[.pointer (some ⟨g, 0, none⟩)] wi fun e w' => e = .returned (.tuple #[]) ∧ FlPost w wi w' a g gS ((flushSecs l0_0 l0_1 l0_1.length)) (([] : List (S50))) f1 b1 := by
 have hu25 := Try.underlying25
 have hu50 := Try.underlying50
 have HB := aC.mk hB
 have BKg := aC.mk hbk
 have HKP := aC.mk (Kept.refl wi (fun k_ => a ≤ k_))
 obtain ⟨top, et_⟩ : ∃ n_, n_ = wi.heap.size := ⟨_, rfl⟩
 have HORD := aC.mk (show ((w.heap.size ≤ a ∧ 0 < a) ∧ a ≤ g) ∧ g + 1 ≤ top ∧ (gS < top ∧ g ≠ gS) ∧ (gC < top ∧ g ≠ gC) from ⟨⟨hwa, hag⟩, by rw [et_]; exact bG hbk, by rw [et_]; exact hSt, by rw [et_]; exact hCt⟩)
 have HT := aC.mk (Nat.le_of_eq et_)
 have HN0 := aC.mk (Kd.N_mono (ok' := Exb a gC g top) (Kd.N_bound hn0) (fun k_ hk_ => ⟨hk_.1, by rw [et_]; exact hk_.2⟩))
 have HN1 := aC.mk (Kd.N_mono (ok' := Exb a gS g top) (Kd.N_bound hn1) (fun k_ hk_ => ⟨hk_.1, by rw [et_]; exact hk_.2⟩))
 have HGC := aC.mk hgC
 have HGS := aC.mk hgS
 have HTE := aC.mk et_
 clear hn0 hn1 hgC hgS et_ hwa hag hSt hCt
 have HL1 := aC.mk (Kd.N_mono (ok' := Exb a gS g top) HN1.out (fun _ h_ => h_))
 have HF1 := aC.mk (Kd.N_F HN1.out)
 have HC1 := aC.mk (Kd.N_reads' HN1.out).2.1
 have JO := aC.mk hbu
 clear hB hbk
 go_enter Try.func60, Try.ntmps60
 have hzg_0_0 : wi.cell? ⟨g, 0, none⟩ = some (.slice A0_0 l0_0.length c0_0) := (aD BKg.out 0).trans rfl
 have hyg_0_0 := aA BKg.out 0
 have hzg_1_0 : wi.cell? ⟨g, 1, none⟩ = some (.slice A0_1 l0_1.length c0_1) := (aD BKg.out 1).trans rfl
 have hyg_1_0 := aA BKg.out 1
 have hzg_2_0 : wi.cell? ⟨g, 2, none⟩ = some (.int .i64 a0_2) := (aD BKg.out 2).trans rfl
 have hyg_2_0 := aA BKg.out 2
 have hzg_3_0 : wi.cell? ⟨g, 3, none⟩ = some (.bool false) := (aD BKg.out 3).trans rfl
 have hyg_3_0 := aA BKg.out 3
 go_wp2_with (first | ((with_reducible refine aY (f := 72) rfl ?_); refine gate_guard (by first | rfl | kernel_rfl) ?_; refine bJ (some 9) rfl rfl Try.func72 (by kernel_rfl) rfl #[.pointer (some ⟨g, 0, none⟩)] rfl (by (try simp only [List.map_toArray, List.map_cons, List.map_nil]); first | done | rfl | (simp only [List.length_drop, List.length_take]; rfl)) ?_; (with_reducible refine (spec_l2OpS.calls (.slice A0_0 l0_0.length c0_0) (.slice A0_1 l0_1.length c0_1) _ _ f1 b1 true w _ g ?s1 ?s2 ?s3 JO.out).mono ?_); (case s1 => exact HB.out); (case s2 => exact BKg.out); (case s3 => exact (by have o_ := HORD.out; omega)); rintro e_ w1 ⟨rfl, hbk_, hbn_, hkp⟩; refine ⟨_, rfl, ?_⟩; have n0_ := aC.mk (Kd.N_kept HN0.out hkp (fun k_ h1_ h2_ => by have o_ := HORD.out; have t_ := HT.out; (try simp only [In2, Up, In, Ex, Exb] at h1_ h2_); omega)); have n1_ := aC.mk (Kd.aZ HF1.out hkp (fun k_ h1_ h2_ => by have o_ := HORD.out; have t_ := HT.out; (try simp only [In2, Up, In, Ex, Exb] at h1_ h2_); omega)); have n2_ := aC.mk (Kd.N_kept HN1.out hkp (fun k_ h1_ h2_ => by have o_ := HORD.out; have t_ := HT.out; (try simp only [In2, Up, In, Ex, Exb] at h1_ h2_); omega)); have n3_ := aC.mk (HKP.out.then_ hkp (fun k_ h_ => by have o_ := HORD.out; have t_ := HT.out; (try simp only [In2, Up, In, Ex, Exb] at h_ ⊢); omega)); have n4_ := aC.mk (hbn_); have n5_ := aC.mk (hbk_); have n6_ := aC.mk (Nat.le_trans HT.out hkp.1); (try clear HN0); (try clear HF1); (try clear HN1); (try clear HKP); (try clear HB); (try clear BKg); (try clear HT); have HN0 := n0_; have HF1 := n1_; have HN1 := n2_; have HKP := n3_; have HB := n4_; have BKg := n5_; have HT := n6_; clear n0_ n1_ n2_ n3_ n4_ n5_ n6_; clear hbk_ hbn_ hkp; have hzg_0_1 : w1.cell? ⟨g, 0, none⟩ = some (.slice A0_0 l0_0.length c0_0) := (aD BKg.out 0).trans rfl; have hyg_0_1 := aA BKg.out 0; have hzg_1_1 : w1.cell? ⟨g, 1, none⟩ = some (.slice A0_1 l0_1.length c0_1) := (aD BKg.out 1).trans rfl; have hyg_1_1 := aA BKg.out 1; have hzg_2_1 : w1.cell? ⟨g, 2, none⟩ = some (.int .i64 f1) := (aD BKg.out 2).trans rfl; have hyg_2_1 := aA BKg.out 2; have hzg_3_1 : w1.cell? ⟨g, 3, none⟩ = some (.bool b1) := (aD BKg.out 3).trans rfl; have hyg_3_1 := aA BKg.out 3))
 go_loopg [2] (l0_1.length) (fun kq  v2 w' => ∃ (i2 : Nat) (x2 : Int) (u2 : Value), v2 = .int .i64 x2 ∧ aC (x2 = (i2 : Int)) ∧ aC (i2 + kq = l0_1.length) ∧ aC (top ≤ w'.heap.size) ∧ aC (Kd.N (Kd.slice 5 (Kd.int .u8)) 37 w' w.heap.size (Exb a g g top) u2 (flushSecs l0_0 l0_1 i2)) ∧ aC (∀ k_, (u2 : Value).ownBlock = some k_ → k_ = gS) ∧ aC (Kd.F k50 w' (Exb a gS g top) A0_1 l0_1.length l0_1) ∧ aC (Kd.N k50 50 w' w.heap.size (Exb a gS g top) (.slice A0_1 l0_1.length c0_1) l0_1) ∧ aC (Kept wi w' (fun k_ => a ≤ k_)) ∧ aC (w'.heap[g]? = some (.cells #[u2, .slice A0_1 l0_1.length c0_1, .int .i64 f1, .bool b1] 25 (0, 0))) ∧ aC (Below w.heap.size w w'))
 case atStart => exact ⟨0, 0, _, rfl, ⟨rfl⟩, ⟨Nat.zero_add _⟩, HT, ⟨by rw [show flushSecs l0_0 l0_1 0 = l0_0 from rfl]; exact Kd.N_mono HN0.out (fun k_ hk_ => by have o_ := HORD.out; (try simp only [In2, Up, In, Ex, Exb] at hk_ ⊢); omega)⟩, ⟨fun k_ hk_ => HGS.out k_ hk_⟩, HF1, HN1, HKP, BKg, HB⟩
 clear HF1 HN1 HKP BKg HB HT HN0
 obtain ⟨i2, x2, u2, rfl, HI2, HK2, HT, HS2, HGN, HF1, HN1, HKP, BKg, HB⟩ := hrel
 obtain ⟨xs2, ex_⟩ : ∃ y_, y_ = flushSecs l0_0 l0_1 i2 := ⟨_, rfl⟩
 rw [← ex_] at HS2
 have HX2 := aC.mk ex_
 clear ex_
 obtain ⟨A2, c2, ev_⟩ := Kd.N_slice HS2.out
 subst ev_
 rcases gk with _ | k1
 rotate_left
 ·have hp_ : 0 ≤ x2 := (by have := HI2.out; omega)
  have hq_ : x2 < (l0_1.length : Int) := (by have := HI2.out; have := HK2.out; omega)
  have hd_ : decide (x2 < (l0_1.length : Int)) = true := decide_eq_true hq_
  have hzg_0_2 : wr.cell? ⟨g, 0, none⟩ = some (.slice A2 xs2.length c2) := (aD BKg.out 0).trans rfl
  have hyg_0_2 := aA BKg.out 0
  have hzg_1_2 : wr.cell? ⟨g, 1, none⟩ = some (.slice A0_1 l0_1.length c0_1) := (aD BKg.out 1).trans rfl
  have hyg_1_2 := aA BKg.out 1
  have hzg_2_2 : wr.cell? ⟨g, 2, none⟩ = some (.int .i64 f1) := (aD BKg.out 2).trans rfl
  have hyg_2_2 := aA BKg.out 2
  have hzg_3_2 : wr.cell? ⟨g, 3, none⟩ = some (.bool b1) := (aD BKg.out 3).trans rfl
  have hyg_3_2 := aA BKg.out 3
  ·have WA_ := aC.mk hp_
   try go_wp2
   obtain ⟨ad3, Ae3, ce3, ee3, hx3_0, hx3_1, hl3, hf3⟩ := F_wr HF1.out x2 hp_ hq_
   cases ee3
   have HF3 := aC.mk hf3
   have HC3 := aC.mk hl3
   clear hf3 hl3
   have n_ := aC.mk (Kd.F_drew HF1.out)
   clear HF1
   have HF1 := n_
   clear n_
   have n_ := aC.mk (Kd.N_drew HN1.out)
   clear HN1
   have HN1 := n_
   clear n_
   have n_ := aC.mk (Kd.N_drew HS2.out)
   clear HS2
   have HS2 := n_
   clear n_
   have n_ := aC.mk (Kd.F_drew HF3.out)
   clear HF3
   have HF3 := n_
   clear n_
   have n_ := aC.mk (aQ BKg.out)
   clear BKg
   have BKg := n_
   clear n_
   have n_ := aC.mk (aH HB.out)
   clear HB
   have HB := n_
   clear n_
   have n_ := aC.mk (show _ ≤ wr.drew.heap.size from HT.out)
   clear HT
   have HT := n_
   clear n_
   have n_ := aC.mk (show Kept wi wr.drew (fun k_ => a ≤ k_) from HKP.out)
   clear HKP
   have HKP := n_
   clear n_
   refine start_ (n := 22) (S := fun w' => w'.cell? ⟨g, 0, none⟩ = some (.slice A2 xs2.length c2) ∧ w'.cell? ⟨g, 1, none⟩ = some (.slice (some ad3) l0_1.length c0_1) ∧ w'.cell? ⟨g, 2, none⟩ = some (.int .i64 f1) ∧ w'.cell? ⟨g, 3, none⟩ = some (.bool b1) ∧ w'.cell? (ad3.add (x2.toNat * 2)) = some (.int .i64 (rdW l0_1 x2).f0) ∧ w'.cell? ⟨(ad3.add (x2.toNat * 2)).block, (ad3.add (x2.toNat * 2)).off + 1, none⟩ = some (.slice Ae3 ((rdW l0_1 x2).f1).length ce3)) (ds := [21]) #[false, false, false, false, false, false, false, false, false, false, false, false, false, false, false, false, false, false, false, false, false, false] (by kernel_rfl) rfl rfl ⟨(aD BKg.out 0).trans rfl, (aD BKg.out 1).trans rfl, (aD BKg.out 2).trans rfl, (aD BKg.out 3).trans rfl, hx3_0, hx3_1⟩ (fun hHeld => ?_)
   generalize wr.drew = w4 at HF1 HN1 HS2 HF3 BKg HB HT HKP hHeld ⊢
   refine pure_ (i := 0) (N := some 21) (v := ?_) (a' := ?_) #[true, false, false, false, false, false, false, false, false, false, false, false, false, false, false, false, false, false, false, false, false, false] rfl rfl (by kernel_rfl) (fun _ _ _ h => h) (Or.inl ⟨by rfl, ?_⟩) ?_ ?_
   rotate_left
   ·intro w'
    go_simp
    with_reducible rfl
   rotate_left
   ·simp only [Act.put, lA, lB, lC, bE, bF]
    rfl
   refine pure_ (i := 1) (N := some 22) (v := ?_) (a' := ?_) #[true, true, false, false, false, false, false, false, false, false, false, false, false, false, false, false, false, false, false, false, false, false] rfl rfl (by kernel_rfl) (fun _ _ _ h => h) (Or.inl ⟨by rfl, ?_⟩) ?_ ?_
   rotate_left
   ·intro w'
    go_simp
    with_reducible rfl
   rotate_left
   ·simp only [Act.put, lA, lB, lC, bE, bF]
    rfl
   refine pure_ (i := 2) (N := some 23) (v := ?_) (a' := ?_) #[true, true, true, false, false, false, false, false, false, false, false, false, false, false, false, false, false, false, false, false, false, false] rfl rfl (by kernel_rfl) (fun _ _ _ h => h) (Or.inl ⟨by rfl, ?_⟩) ?_ ?_
   rotate_left
   ·intro w'
    go_simp
    with_reducible rfl
   rotate_left
   ·simp only [Act.put, lA, lB, lC, bE, bF]
    rfl
   refine take_ (i := 3) (N := some 24) (v := ?_) (a' := ?_) #[true, true, true, true, false, false, false, false, false, false, false, false, false, false, false, false, false, false, false, false, false, false] rfl rfl (by kernel_rfl) (fun _ _ _ h => h) (Or.inl ⟨by rfl, ?_⟩) hHeld ?_ ?_
   rotate_left
   ·rintro w' ⟨s0, s1, s2, s3, s4, s5⟩
    go_simp
    with_reducible rfl
   rotate_left
   ·simp only [Act.put, lA, lB, lC, bE, bF]
    rfl
   refine pure_ (i := 4) (N := some 25) (v := ?_) (a' := ?_) #[true, true, true, true, true, false, false, false, false, false, false, false, false, false, false, false, false, false, false, false, false, false] rfl rfl (by kernel_rfl) (fun _ _ _ h => h) (Or.inl ⟨by rfl, ?_⟩) ?_ ?_
   rotate_left
   ·intro w'
    go_simp
    with_reducible rfl
   rotate_left
   ·simp only [Act.put, lA, lB, lC, bE, bF]
    rfl
   refine pure_ (i := 5) (N := some 26) (v := ?_) (a' := ?_) #[true, true, true, true, true, true, false, false, false, false, false, false, false, false, false, false, false, false, false, false, false, false] rfl rfl (by kernel_rfl) (fun _ _ _ h => h) (Or.inl ⟨by rfl, ?_⟩) ?_ ?_
   rotate_left
   ·intro w'
    go_simp
    with_reducible rfl
   rotate_left
   ·simp only [Act.put, lA, lB, lC, bE, bF]
    rfl
   refine pure_ (i := 6) (N := some 27) (v := ?_) (a' := ?_) #[true, true, true, true, true, true, true, false, false, false, false, false, false, false, false, false, false, false, false, false, false, false] rfl rfl (by kernel_rfl) (fun _ _ _ h => h) (Or.inl ⟨by rfl, ?_⟩) ?_ ?_
   rotate_left
   ·intro w'
    go_simp
    with_reducible rfl
   rotate_left
   ·simp only [Act.put, lA, lB, lC, bE, bF]
    rfl
   refine take_ (i := 7) (N := some 28) (v := ?_) (a' := ?_) #[true, true, true, true, true, true, true, true, false, false, false, false, false, false, false, false, false, false, false, false, false, false] rfl rfl (by kernel_rfl) (fun _ _ _ h => h) (Or.inl ⟨by rfl, ?_⟩) hHeld ?_ ?_
   rotate_left
   ·rintro w' ⟨s0, s1, s2, s3, s4, s5⟩
    go_simp
    with_reducible rfl
   rotate_left
   ·simp only [Act.put, lA, lB, lC, bE, bF]
    rfl
   refine pure_ (i := 8) (N := some 29) (v := ?_) (a' := ?_) #[true, true, true, true, true, true, true, true, true, false, false, false, false, false, false, false, false, false, false, false, false, false] rfl rfl (by kernel_rfl) (fun _ _ _ h => h) (Or.inl ⟨by rfl, ?_⟩) ?_ ?_
   rotate_left
   ·intro w'
    go_simp
    with_reducible rfl
   rotate_left
   ·simp only [Act.put, lA, lB, lC, bE, bF]
    rfl
   refine pure_ (i := 9) (N := some 30) (v := ?_) (a' := ?_) #[true, true, true, true, true, true, true, true, true, true, false, false, false, false, false, false, false, false, false, false, false, false] rfl rfl (by kernel_rfl) (fun _ _ _ h => h) (Or.inl ⟨by rfl, ?_⟩) ?_ ?_
   rotate_left
   ·intro w'
    go_simp
    with_reducible rfl
   rotate_left
   ·simp only [Act.put, lA, lB, lC, bE, bF]
    rfl
   refine pure_ (i := 10) (N := some 31) (v := ?_) (a' := ?_) #[true, true, true, true, true, true, true, true, true, true, true, false, false, false, false, false, false, false, false, false, false, false] rfl rfl (by kernel_rfl) (fun _ _ _ h => h) (Or.inl ⟨by rfl, ?_⟩) ?_ ?_
   rotate_left
   ·intro w'
    go_simp
    with_reducible rfl
   rotate_left
   ·simp only [Act.put, lA, lB, lC, bE, bF]
    rfl
   refine take_ (i := 11) (N := some 32) (v := ?_) (a' := ?_) #[true, true, true, true, true, true, true, true, true, true, true, true, false, false, false, false, false, false, false, false, false, false] rfl rfl (by kernel_rfl) (fun _ _ _ h => h) (Or.inl ⟨by rfl, ?_⟩) hHeld ?_ ?_
   rotate_left
   ·rintro w' ⟨s0, s1, s2, s3, s4, s5⟩
    go_simp
    with_reducible rfl
   rotate_left
   ·simp only [Act.put, lA, lB, lC, bE, bF]
    rfl
   refine pure_ (i := 12) (N := some 33) (v := ?_) (a' := ?_) #[true, true, true, true, true, true, true, true, true, true, true, true, true, false, false, false, false, false, false, false, false, false] rfl rfl (by kernel_rfl) (fun _ _ _ h => h) (Or.inl ⟨by rfl, ?_⟩) ?_ ?_
   rotate_left
   ·intro w'
    go_simp
    with_reducible rfl
   rotate_left
   ·simp only [Act.put, lA, lB, lC, bE, bF]
    rfl
   refine pure_ (i := 13) (N := some 34) (v := ?_) (a' := ?_) #[true, true, true, true, true, true, true, true, true, true, true, true, true, true, false, false, false, false, false, false, false, false] rfl rfl (by kernel_rfl) (fun _ _ _ h => h) (Or.inl ⟨by rfl, ?_⟩) ?_ ?_
   rotate_left
   ·intro w'
    go_simp
    with_reducible rfl
   rotate_left
   ·simp only [Act.put, lA, lB, lC, bE, bF]
    rfl
   refine pure_ (i := 14) (N := some 35) (v := ?_) (a' := ?_) #[true, true, true, true, true, true, true, true, true, true, true, true, true, true, true, false, false, false, false, false, false, false] rfl rfl (by kernel_rfl) (fun _ _ _ h => h) (Or.inl ⟨by rfl, ?_⟩) ?_ ?_
   rotate_left
   ·intro w'
    go_simp
    with_reducible rfl
   rotate_left
   ·simp only [Act.put, lA, lB, lC, bE, bF]
    rfl
   refine take_ (i := 15) (N := some 36) (v := ?_) (a' := ?_) #[true, true, true, true, true, true, true, true, true, true, true, true, true, true, true, true, false, false, false, false, false, false] rfl rfl (by kernel_rfl) (fun _ _ _ h => h) (Or.inl ⟨by rfl, ?_⟩) hHeld ?_ ?_
   rotate_left
   ·rintro w' ⟨s0, s1, s2, s3, s4, s5⟩
    go_simp
    with_reducible rfl
   rotate_left
   ·simp only [Act.put, lA, lB, lC, bE, bF]
    rfl
   refine pure_ (i := 16) (N := some 37) (v := ?_) (a' := ?_) #[true, true, true, true, true, true, true, true, true, true, true, true, true, true, true, true, true, false, false, false, false, false] rfl rfl (by kernel_rfl) (fun _ _ _ h => h) (Or.inl ⟨by rfl, ?_⟩) ?_ ?_
   rotate_left
   ·intro w'
    go_simp
    with_reducible rfl
   rotate_left
   ·simp only [Act.put, lA, lB, lC, bE, bF]
    rfl
   refine pure_ (i := 17) (N := some 38) (v := ?_) (a' := ?_) #[true, true, true, true, true, true, true, true, true, true, true, true, true, true, true, true, true, true, false, false, false, false] rfl rfl (by kernel_rfl) (fun _ _ _ h => h) (Or.inl ⟨by rfl, ?_⟩) ?_ ?_
   rotate_left
   ·intro w'
    go_simp
    with_reducible rfl
   rotate_left
   ·simp only [Act.put, lA, lB, lC, bE, bF]
    rfl
   refine pure_ (i := 18) (N := some 39) (v := ?_) (a' := ?_) #[true, true, true, true, true, true, true, true, true, true, true, true, true, true, true, true, true, true, true, false, false, false] rfl rfl (by kernel_rfl) (fun _ _ _ h => h) (Or.inl ⟨by rfl, ?_⟩) ?_ ?_
   rotate_left
   ·intro w'
    go_simp
    with_reducible rfl
   rotate_left
   ·simp only [Act.put, lA, lB, lC, bE, bF]
    rfl
   refine take_ (i := 19) (N := some 40) (v := ?_) (a' := ?_) #[true, true, true, true, true, true, true, true, true, true, true, true, true, true, true, true, true, true, true, true, false, false] rfl rfl (by kernel_rfl) (fun _ _ _ h => h) (Or.inl ⟨by rfl, ?_⟩) hHeld ?_ ?_
   rotate_left
   ·rintro w' ⟨s0, s1, s2, s3, s4, s5⟩
    go_simp
    with_reducible rfl
   rotate_left
   ·simp only [Act.put, lA, lB, lC, bE, bF]
    rfl
   have pI5 : 0 ≤ ((rdW l0_1 x2).f0) := (hin _ HI2.out (by have := HK2.out; omega)).1
   have qI5 : ((rdW l0_1 x2).f0) < ((xs2).length : Int) := (by have h_ := (hin _ HI2.out (by have := HK2.out; omega)).2; rw [HX2.out, flushSecs_length]; exact h_)
   obtain ⟨go5, co5, eo_, gb_, gl_, GG_⟩ := Kd.N_form HS2.out (by omega)
   injection eo_ with ea_ en_ ec_
   subst ea_
   subst ec_
   clear en_ GG_ gl_
   have GO5 := aC.mk ((HS2.out).1 go5 rfl)
   have GB5 := aC.mk gb_
   clear gb_
   have GN5 := aC.mk (HGN.out go5 rfl)
   obtain ⟨ce_, hcl_, hM_, hcc_, hfr_⟩ := Kd.N_elem HS2.out [] ((rdW l0_1 x2).f0) pI5 qI5
   obtain ⟨ua_, uc_, rfl, _, _⟩ := Kd.FK_slice_open hM_
   have hx5 := hcc_ 0 _ rfl
   have hf5 := hfr_ 0
   (try simp only [show (Kd.slice 5 (Kd.int .u8)).sz = 1 from rfl, Nat.mul_one, Nat.add_zero] at hx5)
   (try simp only [show (Kd.slice 5 (Kd.int .u8)).sz = 1 from rfl, Nat.mul_one, Nat.add_zero] at hf5)
   clear hcl_ hcc_ hfr_ hM_
   have PI5 := aC.mk pI5
   have QI5 := aC.mk qI5
   replace pI5 := eq_true pI5
   replace qI5 := eq_true qI5
   refine pure_ (i := 20) (N := some 41) (v := ?_) (a' := ?_) #[true, true, true, true, true, true, true, true, true, true, true, true, true, true, true, true, true, true, true, true, true, false] rfl rfl (by kernel_rfl) (fun _ _ _ h => h) (Or.inl ⟨by rfl, ?_⟩) ?_ ?_
   rotate_left
   ·intro w'
    go_simp
    with_reducible rfl
   rotate_left
   ·simp only [Act.put, lA, lB, lC, bE, bF]
    rfl
   refine last_ (i := 21) (N := none) #[true, true, true, true, true, true, true, true, true, true, true, true, true, true, true, true, true, true, true, true, true, true] rfl rfl (by kernel_rfl) (by decide) (fun K hK => ?_)
   obtain ⟨ce_, hcl_, hM_, hcc_, hfr_⟩ := Kd.N_elem HS2.out [] ((rdW l0_1 x2).f0) PI5.out QI5.out
   obtain ⟨ua_, uc_, rfl, _, _⟩ := Kd.FK_slice_open hM_
   have hp_ := (Kd.N_seg HS2.out ((rdW l0_1 x2).f0) PI5.out QI5.out (seg := [.slice Ae3 ((rdW l0_1 x2).f1).length ce3]) (j := 0) hcl_ hcc_ (show 1 ≤ 1 by decide) (x' := ((rdW l0_1 x2).f1)) (Kd.FK_slice_mk HC3.out (Kd.F_mono HF3.out (fun k_ hk_ => ⟨by (try simp only [In2, Up, In, Ex, Exb] at hk_ ⊢); omega, by have g_ := GN5.out; (try simp only [In2, Up, In, Ex, Exb] at hk_); omega⟩))) (fun _ hk => hk)).1
   (try simp only [show (Kd.slice 5 (Kd.int .u8)).sz = 1 from rfl, Nat.mul_one, Nat.add_zero] at hp_)
   have HP_ := aC.mk (show Kd.N (Kd.slice 5 (Kd.int .u8)) 37 (w4.setCell ⟨go5, ((rdW l0_1 x2).f0).toNat, none⟩ (.slice Ae3 ((rdW l0_1 x2).f1).length ce3)) w.heap.size (Exb a g g top) (.slice (some ⟨go5, 0, none⟩) xs2.length c2) (xs2.set ((rdW l0_1 x2).f0).toNat ((rdW l0_1 x2).f1)) from hp_)
   clear hp_ hfr_ hcc_ hcl_ hM_
   refine skip_ (w1 := ?_) (by rfl) rfl ?_ ?_
   rotate_left
   ·go_simp
    rfl
   refine hK.out _ _ ?_
   clear hK K
   refine done_ (by kernel_rfl) ?_
   obtain ⟨w6, hw_⟩ : ∃ z_, z_ = (w4.setCell ⟨go5, ((rdW l0_1 x2).f0).toNat, none⟩ (.slice Ae3 ((rdW l0_1 x2).f1).length ce3)) := ⟨_, rfl⟩
   (try rw [← hw_])
   have hs0_ := HP_.out
   clear HP_
   rw [← hw_] at hs0_
   obtain ⟨ys6, ey_⟩ : ∃ y_, y_ = xs2.set ((rdW l0_1 x2).f0).toNat ((rdW l0_1 x2).f1) := ⟨_, rfl⟩
   rw [← ey_] at hs0_
   have hle_ : ys6.length = (xs2).length := by rw [ey_, List.length_set]
   have HY6 := aC.mk ey_
   clear ey_
   rw [← hle_] at hs0_
   have hkp : Kept w4 w6 (fun k_ => k_ = go5) := (by rw [hw_]; exact Kept.setCell (Kept.refl w4 (fun k_ => k_ = go5)) (.inl rfl) (.slice Ae3 ((rdW l0_1 x2).f1).length ce3))
   have hbn_ : Below w.heap.size w w6 := (by rw [hw_]; exact aG HB.out (Nat.le_trans (by have o_ := HORD.out; omega) GB5.out))
   have hgo_ : go5 = gS ∧ a ≤ go5 := ⟨GN5.out, by have g_ := GO5.out; (try simp only [In2, Up, In, Ex, Exb] at g_); omega⟩
   have n_ := aC.mk (And.intro HORD.out hgo_)
   clear HORD
   have HORD := n_
   clear n_
   have n0_ := aC.mk (Kd.aZ HF1.out hkp (fun k_ h1_ h2_ => by have o_ := HORD.out; have t_ := HT.out; (try simp only [In2, Up, In, Ex, Exb] at h1_ h2_); omega))
   have n1_ := aC.mk (Kd.N_kept HN1.out hkp (fun k_ h1_ h2_ => by have o_ := HORD.out; have t_ := HT.out; (try simp only [In2, Up, In, Ex, Exb] at h1_ h2_); omega))
   have n2_ := aC.mk (HKP.out.then_ hkp (fun k_ h_ => by have o_ := HORD.out; have t_ := HT.out; (try simp only [In2, Up, In, Ex, Exb] at h_ ⊢); omega))
   have n3_ := aC.mk (bA BKg.out hkp (fun h2_ => by have o_ := HORD.out; have t_ := HT.out; (try simp only [In2, Up, In, Ex, Exb] at h2_); omega))
   have n4_ := aC.mk (hbn_)
   have n5_ := aC.mk (Nat.le_trans HT.out hkp.1)
   have n6_ := aC.mk (hs0_)
   (try clear HF1)
   (try clear HN1)
   (try clear HKP)
   (try clear BKg)
   (try clear HB)
   (try clear HT)
   (try clear HS6)
   have HF1 := n0_
   have HN1 := n1_
   have HKP := n2_
   have BKg := n3_
   have HB := n4_
   have HT := n5_
   have HS6 := n6_
   clear n0_ n1_ n2_ n3_ n4_ n5_ n6_
   rw [← hle_] at BKg
   clear hle_ hs0_ hbn_ hkp hw_ hgo_
   have hzg_0_6 : w6.cell? ⟨g, 0, none⟩ = some (.slice (some ⟨go5, 0, none⟩) ys6.length c2) := (aD BKg.out 0).trans rfl
   have hyg_0_6 := aA BKg.out 0
   have hzg_1_6 : w6.cell? ⟨g, 1, none⟩ = some (.slice (some ad3) l0_1.length c0_1) := (aD BKg.out 1).trans rfl
   have hyg_1_6 := aA BKg.out 1
   have hzg_2_6 : w6.cell? ⟨g, 2, none⟩ = some (.int .i64 f1) := (aD BKg.out 2).trans rfl
   have hyg_2_6 := aA BKg.out 2
   have hzg_3_6 : w6.cell? ⟨g, 3, none⟩ = some (.bool b1) := (aD BKg.out 3).trans rfl
   have hyg_3_6 := aA BKg.out 3
   try go_wp2
   go_roundg k1
   case measure => omega
   case rel => exact ⟨i2 + 1, _, _, rfl, ⟨show _ = ((i2 + 1 : Nat) : Int) by have := HI2.out; have hm_ := hl1; have := HK2.out; first | (rw [w64 (by omega) (by omega)]; omega) | omega⟩, ⟨by have := HK2.out; omega⟩, ⟨Nat.le_trans (by have o_ := HORD.out; omega) HT.out⟩, ⟨by rw [show flushSecs l0_0 l0_1 (i2 + 1) = ys6 from (by rw [HY6.out, HX2.out]; exact flush_t HI2.out)]; exact HS6.out⟩, ⟨by intro k_ hk_; exact HGN.out k_ hk_⟩, HF1, HN1, HKP, BKg, HB⟩
 have hi0_ : i2 = l0_1.length := (by have := HK2.out; omega)
 have hd_ : decide (x2 < (l0_1.length : Int)) = false := decide_eq_false (by have := HI2.out; omega)
 have eall_ : xs2 = (flushSecs l0_0 l0_1 l0_1.length) := (by rw [HX2.out, hi0_])
 rw [eall_] at HS2 BKg
 have hzg_0_6 : wr.cell? ⟨g, 0, none⟩ = some (.slice A2 ((flushSecs l0_0 l0_1 l0_1.length)).length c2) := (aD BKg.out 0).trans rfl
 have hyg_0_6 := aA BKg.out 0
 have hzg_1_6 : wr.cell? ⟨g, 1, none⟩ = some (.slice A0_1 l0_1.length c0_1) := (aD BKg.out 1).trans rfl
 have hyg_1_6 := aA BKg.out 1
 have hzg_2_6 : wr.cell? ⟨g, 2, none⟩ = some (.int .i64 f1) := (aD BKg.out 2).trans rfl
 have hyg_2_6 := aA BKg.out 2
 have hzg_3_6 : wr.cell? ⟨g, 3, none⟩ = some (.bool b1) := (aD BKg.out 3).trans rfl
 have hyg_3_6 := aA BKg.out 3
 go_wp2_with (first | ((with_reducible refine bC (N := 43) rfl ?_); refine Kd.N_lit k50 _ 50 ?hg (N' := 43) ?hd (xs := ([] : List (S50))) (inner := []) (ok := fun k_ => top ≤ k_) (okp := fun _ => False) ?hr ?hp (fun _ hk => hk.elim) HT.out (Below.refl _ _) (Nat.le_refl _) (by simp) ?_; (case hd => rfl); (case hg => rfl); (case hr => first | (go_simp; done) | (go_simp; rfl)); (case hp => exact (Reps.none _ _)); intro v7 w7 ho_ hb hg_ hat_; obtain ⟨gn7, hat_, hle_⟩ := hat_; have hgn_ : ∀ k_, v7.ownBlock = some k_ → k_ = gn7 := fun k_ hk_ => (by rw [hat_] at hk_; injection hk_ with hk_; exact hk_.symm); have hlt_ := Kd.N_lt ho_ gn7 hat_; obtain ⟨ys7, ey_⟩ : ∃ y_ : List (S50), y_ = [] := ⟨_, rfl⟩; rw [← ey_] at ho_; have HY7 := aC.mk ey_; clear ey_; obtain ⟨A7, c7, ev_⟩ := Kd.N_slice ho_; subst ev_; obtain ⟨hi7, e2_⟩ : ∃ n_, n_ = w7.heap.size := ⟨_, rfl⟩; have ol_ : top ≤ hi7 := (by rw [e2_]; exact Nat.le_trans HT.out hb.size); rw [← e2_] at hlt_; have hle2_ : top ≤ gn7 := Nat.le_trans HT.out hle_; have ho2_ := Kd.N_lower ho_ (aW HB.out); have n0_ := aC.mk (Kd.aU HF1.out hb); have n1_ := aC.mk (Kd.N_below HN1.out hb); have n2_ := aC.mk (Kd.N_below HS2.out hb); have n3_ := aC.mk (HKP.out.then_ (Kept.of_below hb (fun _ => False)) (fun _ h_ => h_.elim)); have n4_ := aC.mk (aM BKg.out hb); have n5_ := aC.mk (aV HB.out hb); have n6_ := aC.mk (And.intro HORD.out (And.intro ol_ (And.intro hle2_ hlt_))); have n7_ := aC.mk (Nat.le_of_eq e2_); have n8_ := aC.mk (ho2_); have n9_ := aC.mk (hgn_); (try clear HF1); (try clear HN1); (try clear HS2); (try clear HKP); (try clear BKg); (try clear HB); (try clear HORD); (try clear HT); (try clear HS7); (try clear HG7); have HF1 := n0_; have HN1 := n1_; have HS2 := n2_; have HKP := n3_; have BKg := n4_; have HB := n5_; have HORD := n6_; have HT := n7_; have HS7 := n8_; have HG7 := n9_; clear n0_ n1_ n2_ n3_ n4_ n5_ n6_ n7_ n8_ n9_; clear hb ho_ ho2_ hg_ hat_ hle_ hle2_ hlt_ hgn_ ol_ e2_; have hzg_0_7 : w7.cell? ⟨g, 0, none⟩ = some (.slice A2 ((flushSecs l0_0 l0_1 l0_1.length)).length c2) := (aD BKg.out 0).trans rfl; have hyg_0_7 := aA BKg.out 0; have hzg_1_7 : w7.cell? ⟨g, 1, none⟩ = some (.slice A0_1 l0_1.length c0_1) := (aD BKg.out 1).trans rfl; have hyg_1_7 := aA BKg.out 1; have hzg_2_7 : w7.cell? ⟨g, 2, none⟩ = some (.int .i64 f1) := (aD BKg.out 2).trans rfl; have hyg_2_7 := aA BKg.out 2; have hzg_3_7 : w7.cell? ⟨g, 3, none⟩ = some (.bool b1) := (aD BKg.out 3).trans rfl; have hyg_3_7 := aA BKg.out 3) | ((with_reducible refine bP (t := 23) (p := 45) rfl ?_); refine bK (t := 23) (p := 45) (v := ?vo_w8) (w1 := (w7.setCell ⟨g, 1, none⟩ (.slice A7 ys7.length c7))) ?hg ?ho ?hn ?hr ?_; (case ho => rfl); (case hg => rfl); (case hn => rfl); (case hr => first | (go_simp; done) | (go_simp; rfl)); intro w8 hw_; have hkp : Kept w7 w8 (fun k_ => k_ = g) := (by rw [hw_]; exact Kept.setCell (Kept.refl w7 (fun k_ => k_ = g)) (.inl rfl) (.slice A7 ys7.length c7)); have hge_ : w.heap.size ≤ g := (by have o_ := HORD.out; (try unfold In at *); (try show _ ≠ _); omega); have hbn_ : Below w.heap.size w w8 := (by rw [hw_]; exact aG (HB.out) hge_); have hbk_ : w8.heap[g]? = some (.cells #[.slice A2 ((flushSecs l0_0 l0_1 l0_1.length)).length c2, .slice A7 ys7.length c7, .int .i64 f1, .bool b1] 25 (0, 0)) := (by rw [hw_]; exact aX (cs := #[.slice A2 ((flushSecs l0_0 l0_1 l0_1.length)).length c2, .slice A0_1 l0_1.length c0_1, .int .i64 f1, .bool b1]) (cs' := #[.slice A2 ((flushSecs l0_0 l0_1 l0_1.length)).length c2, .slice A7 ys7.length c7, .int .i64 f1, .bool b1]) (BKg.out) 1 _ rfl); have hsz_ : hi7 ≤ w8.heap.size := Nat.le_trans HT.out hkp.1; have n0_ := aC.mk (Kd.aZ HF1.out hkp (fun k_ h1_ h2_ => by have o_ := HORD.out; have t_ := HT.out; (try simp only [In2, Up, In, Ex, Exb] at h1_ h2_); omega)); have n1_ := aC.mk (Kd.N_kept HN1.out hkp (fun k_ h1_ h2_ => by have o_ := HORD.out; have t_ := HT.out; (try simp only [In2, Up, In, Ex, Exb] at h1_ h2_); omega)); have n2_ := aC.mk (Kd.N_kept HS2.out hkp (fun k_ h1_ h2_ => by have o_ := HORD.out; have t_ := HT.out; (try simp only [In2, Up, In, Ex, Exb] at h1_ h2_); omega)); have n3_ := aC.mk (Kd.N_kept HS7.out hkp (fun k_ h1_ h2_ => by have o_ := HORD.out; have t_ := HT.out; (try simp only [In2, Up, In, Ex, Exb] at h1_ h2_); omega)); have n4_ := aC.mk (HKP.out.then_ hkp (fun k_ h_ => by have o_ := HORD.out; have t_ := HT.out; (try simp only [In2, Up, In, Ex, Exb] at h_ ⊢); omega)); have n5_ := aC.mk (hbn_); have n6_ := aC.mk (hbk_); have n7_ := aC.mk (hsz_); (try clear HF1); (try clear HN1); (try clear HS2); (try clear HS7); (try clear HKP); (try clear HB); (try clear BKg); (try clear HT); have HF1 := n0_; have HN1 := n1_; have HS2 := n2_; have HS7 := n3_; have HKP := n4_; have HB := n5_; have BKg := n6_; have HT := n7_; clear n0_ n1_ n2_ n3_ n4_ n5_ n6_ n7_; clear hw_ hkp hge_ hbn_ hbk_ hsz_; have hzg_0_8 : w8.cell? ⟨g, 0, none⟩ = some (.slice A2 ((flushSecs l0_0 l0_1 l0_1.length)).length c2) := (aD BKg.out 0).trans rfl; have hyg_0_8 := aA BKg.out 0; have hzg_1_8 : w8.cell? ⟨g, 1, none⟩ = some (.slice A7 ys7.length c7) := (aD BKg.out 1).trans rfl; have hyg_1_8 := aA BKg.out 1; have hzg_2_8 : w8.cell? ⟨g, 2, none⟩ = some (.int .i64 f1) := (aD BKg.out 2).trans rfl; have hyg_2_8 := aA BKg.out 2; have hzg_3_8 : w8.cell? ⟨g, 3, none⟩ = some (.bool b1) := (aD BKg.out 3).trans rfl; have hyg_3_8 := aA BKg.out 3))
 first | go_end0 | refine bodyPost_ret (fn := Try.f60) (results_none rfl _ _ _) rfl ?_
 exact ⟨rfl, by unfold FlPost; exact ⟨_, _, gn7, BKg.out, HG7.out, (by have o_ := HORD.out; have t_ := HT.out; omega), Kd.N_mono HS2.out (fun k_ hk_ => by have o_ := HORD.out; have t_ := HT.out; (try simp only [In2, Up, In, Ex, Exb] at hk_ ⊢); omega), (by rw [← HY7.out]; exact Kd.N_mono HS7.out (fun k_ hk_ => by have o_ := HORD.out; have t_ := HT.out; (try simp only [In2, Up, In, Ex, Exb] at hk_ ⊢); omega)), HB.out, HKP.out⟩⟩
theorem spec_l2FlushS.calls (A0_0 : Option Addr) (c0_0 : Nat) (l0_0 : List (List Int)) (A0_1 : Option Addr) (c0_1 : Nat) (l0_1 : List (S50)) (a0_2 : Int) (a0_3 : Bool) (w wi : World) (g : Nat) (hB : Below w.heap.size w wi) (hbk : wi.heap[g]? = some (.cells #[.slice A0_0 l0_0.length c0_0, .slice A0_1 l0_1.length c0_1, .int .i64 a0_2, .bool a0_3] 25 (0, 0))) (a gS gC : Nat) (hwa : w.heap.size ≤ a ∧ 0 < a) (hag : a ≤ g) (hSt : gS < wi.heap.size ∧ g ≠ gS) (hCt : gC < wi.heap.size ∧ g ≠ gC) (hgC : ∀ k_, (Value.slice A0_1 l0_1.length c0_1).ownBlock = some k_ → k_ = gC) (hgS : ∀ k_, (Value.slice A0_0 l0_0.length c0_0).ownBlock = some k_ → k_ = gS) (hn0 : Kd.N (Kd.slice 5 (Kd.int .u8)) 37 wi w.heap.size (Ex a gC g) (.slice A0_0 l0_0.length c0_0) l0_0) (hn1 : Kd.N k50 50 wi w.heap.size (Ex a gS g) (.slice A0_1 l0_1.length c0_1) l0_1) (hl1 : l0_1.length ≤ 4194304) (hin : ∀ {x : Int} (i : Nat), x = (i : Int) → i < l0_1.length → 0 ≤ (rdW l0_1 x).f0 ∧ (rdW l0_1 x).f0 < (l0_0.length : Int)) :
  Calls Try.prog 60 #[.pointer (some ⟨g, 0, none⟩)] wi fun e w' => e = .returned (.tuple #[]) ∧ FlPost w wi w' a g gS (flushed l0_0 l0_1 a0_2 a0_3).1 (flushed l0_0 l0_1 a0_2 a0_3).2.1 (flushed l0_0 l0_1 a0_2 a0_3).2.2.1 (flushed l0_0 l0_1 a0_2 a0_3).2.2.2 := by
 unfold flushed
 cases a0_3 with
 | true => exact walk_l2Flush1 _ _ _ _ _ _ _ w wi g hB hbk a gS gC hwa hag hSt hCt hgC hgS hn0 hn1
 | false =>
  rw [if_neg (by decide)]
  obtain ⟨⟨f1, b1, o1⟩, hbu⟩ : ∃ z, burnF a0_2 false = z := ⟨_, rfl⟩
  rw [hbu]
  cases o1 with
  | true => exact walk_l2Flush3 _ _ _ _ _ _ _ w wi g hB hbk a gS gC hwa hag hSt hCt hgC hgS hn0 hn1 hl1 hin _ _ hbu
  | false => exact walk_l2Flush2 _ _ _ _ _ _ _ w wi g hB hbk a gS gC hwa hag hSt hCt hgC hgS hn0 hn1 _ _ hbu
set_option maxHeartbeats 8000000 in
set_option maxRecDepth 100000 in
theorem walk_FlushDevspec_1 (A0_0 : Option Addr) (c0_0 : Nat) (l0_0 : List (List (Int))) (A0_1 : Option Addr) (c0_1 : Nat) (l0_1 : List (S50)) (a0_2 : Int) (a0_3 : Bool) (w : World) (hf0_0 : Kd.F (Kd.slice 5 (Kd.int .u8)) w (In 0 w.heap.size) A0_0 l0_0.length l0_0) (hc0_0 : l0_0.length ≤ c0_0) (hf0_1 : Kd.F k50 w (In 0 w.heap.size) A0_1 l0_1.length l0_1) (hc0_1 : l0_1.length ≤ c0_1) (hok0 : okByteSS l0_0) (hok1 : okWrS l0_1) (hdo : devOkB l0_0 l0_1 a0_2 = false) :
  Calls Try.prog 29 #[.agg #[.slice A0_0 l0_0.length c0_0, .slice A0_1 l0_1.length c0_1, .int .i64 a0_2, .bool a0_3]] w fun e w' => ∃ v0_ v1_ : Value, e = .returned (.agg #[v0_, v1_, .int .i64 a0_2, .bool a0_3]) ∧ Kd.N (Kd.slice 5 (Kd.int .u8)) 37 w' w.heap.size (fun k_ => w.heap.size ≤ k_) v0_ l0_0 ∧ Kd.N k50 50 w' w.heap.size (fun k_ => w.heap.size ≤ k_) v1_ l0_1 ∧ Below w.heap.size w w' := by
 have hu25 := Try.underlying25
 have hu50 := Try.underlying50
 have HF0_0 := aC.mk hf0_0
 have HC0_0 := aC.mk hc0_0
 clear hf0_0 hc0_0
 have HF0_1 := aC.mk hf0_1
 have HC0_1 := aC.mk hc0_1
 clear hf0_1 hc0_1
 have HB := aC.mk (Below.refl w.heap.size w)
 have HORD := aC.mk (Nat.le_refl w.heap.size)
 have HT := aC.mk (Nat.le_refl w.heap.size)
 obtain ⟨kc, hc0_⟩ := evGet (spec_l2Copy_ev l0_0 l0_1 a0_2 a0_3 hok0 hok1)
 have JC := aC.mk hc0_
 obtain ⟨kd, hd0_⟩ := evGet (spec_DevOk_ev l0_0 l0_1 a0_2 a0_3 hok0 hok1)
 rw [hdo] at hd0_
 have JD := aC.mk hd0_
 clear hc0_ hd0_
 go_enter Try.func29, Try.ntmps29
 go_wp2_with (first | ((with_reducible refine bC (N := 1) rfl ?_); refine bB ?hg (N := 1) ?hd (cs := #[.slice A0_0 l0_0.length c0_0, .slice A0_1 l0_1.length c0_1, .int .i64 a0_2, .bool a0_3]) (t := 25) ?hr ?_; (case hd => rfl); (case hg => rfl); (case hr => first | (go_simp; done) | (go_simp; rfl)); intro gb1 hg_ w1 hbox hb; have hge_ : w.heap.size ≤ gb1 := (by rw [hg_]; exact HT.out); have hlt_ : gb1 + 1 ≤ w1.heap.size := bG hbox; have n0_ := aC.mk (Kd.aU HF0_0.out hb); have n1_ := aC.mk (Kd.aU HF0_1.out hb); have n2_ := aC.mk (aV HB.out hb); have n3_ := aC.mk (hbox); have n4_ := aC.mk (And.intro HORD.out (And.intro hge_ (Nat.le_succ gb1))); have n5_ := aC.mk (hlt_); (try clear HF0_0); (try clear HF0_1); (try clear HB); (try clear BK1); (try clear HORD); (try clear HT); have HF0_0 := n0_; have HF0_1 := n1_; have HB := n2_; have BK1 := n3_; have HORD := n4_; have HT := n5_; clear n0_ n1_ n2_ n3_ n4_ n5_; clear hb hbox hg_ hge_ hlt_; have hzgb1_0_1 : w1.cell? ⟨gb1, 0, none⟩ = some (.slice A0_0 l0_0.length c0_0) := (aD BK1.out 0).trans rfl; have hygb1_0_1 := aA BK1.out 0; have hzgb1_1_1 : w1.cell? ⟨gb1, 1, none⟩ = some (.slice A0_1 l0_1.length c0_1) := (aD BK1.out 1).trans rfl; have hygb1_1_1 := aA BK1.out 1; have hzgb1_2_1 : w1.cell? ⟨gb1, 2, none⟩ = some (.int .i64 a0_2) := (aD BK1.out 2).trans rfl; have hygb1_2_1 := aA BK1.out 2; have hzgb1_3_1 : w1.cell? ⟨gb1, 3, none⟩ = some (.bool a0_3) := (aD BK1.out 3).trans rfl; have hygb1_3_1 := aA BK1.out 3) | ((with_reducible refine bC (N := 2) rfl ?_); refine bB ?hg (N := 2) ?hd (cs := #[.slice none 0 0, .slice none 0 0, .int .i64 0, .bool false]) (t := 25) ?hr ?_; (case hd => rfl); (case hg => rfl); (case hr => first | (go_simp; done) | (go_simp; rfl)); intro gb2 hg_ w2 hbox hb; have hge_ : (gb1 + 1) ≤ gb2 := (by rw [hg_]; exact HT.out); have hlt_ : gb2 + 1 ≤ w2.heap.size := bG hbox; have n0_ := aC.mk (Kd.aU HF0_0.out hb); have n1_ := aC.mk (Kd.aU HF0_1.out hb); have n2_ := aC.mk (aM BK1.out hb); have n3_ := aC.mk (aV HB.out hb); have n4_ := aC.mk (hbox); have n5_ := aC.mk (And.intro HORD.out (And.intro hge_ (Nat.le_succ gb2))); have n6_ := aC.mk (hlt_); (try clear HF0_0); (try clear HF0_1); (try clear BK1); (try clear HB); (try clear BK2); (try clear HORD); (try clear HT); have HF0_0 := n0_; have HF0_1 := n1_; have BK1 := n2_; have HB := n3_; have BK2 := n4_; have HORD := n5_; have HT := n6_; clear n0_ n1_ n2_ n3_ n4_ n5_ n6_; clear hb hbox hg_ hge_ hlt_; have hzgb1_0_2 : w2.cell? ⟨gb1, 0, none⟩ = some (.slice A0_0 l0_0.length c0_0) := (aD BK1.out 0).trans rfl; have hygb1_0_2 := aA BK1.out 0; have hzgb1_1_2 : w2.cell? ⟨gb1, 1, none⟩ = some (.slice A0_1 l0_1.length c0_1) := (aD BK1.out 1).trans rfl; have hygb1_1_2 := aA BK1.out 1; have hzgb1_2_2 : w2.cell? ⟨gb1, 2, none⟩ = some (.int .i64 a0_2) := (aD BK1.out 2).trans rfl; have hygb1_2_2 := aA BK1.out 2; have hzgb1_3_2 : w2.cell? ⟨gb1, 3, none⟩ = some (.bool a0_3) := (aD BK1.out 3).trans rfl; have hygb1_3_2 := aA BK1.out 3; have hzgb2_0_2 : w2.cell? ⟨gb2, 0, none⟩ = some (.slice none 0 0) := (aD BK2.out 0).trans rfl; have hygb2_0_2 := aA BK2.out 0; have hzgb2_1_2 : w2.cell? ⟨gb2, 1, none⟩ = some (.slice none 0 0) := (aD BK2.out 1).trans rfl; have hygb2_1_2 := aA BK2.out 1; have hzgb2_2_2 : w2.cell? ⟨gb2, 2, none⟩ = some (.int .i64 0) := (aD BK2.out 2).trans rfl; have hygb2_2_2 := aA BK2.out 2; have hzgb2_3_2 : w2.cell? ⟨gb2, 3, none⟩ = some (.bool false) := (aD BK2.out 3).trans rfl; have hygb2_3_2 := aA BK2.out 3) | ((with_reducible refine aY (f := 56) rfl ?_); refine bJ (some 5) rfl rfl Try.func56 (by kernel_rfl) rfl #[.agg #[.slice A0_0 l0_0.length c0_0, .slice A0_1 l0_1.length c0_1, .int .i64 a0_2, .bool a0_3]] rfl (by (try simp only [List.map_toArray, List.map_cons, List.map_nil]); first | done | rfl | (simp only [List.length_drop, List.length_take]; rfl)) ?_; (with_reducible refine (spec_l2Copy.calls kc _ _ l0_0 _ _ l0_1 a0_2 a0_3 l0_0 l0_1 a0_2 a0_3 _ ?s1 ?s2 ?s3 ?s4 JC.out).mono ?_); (case s1 => exact (Kd.F_now HF0_0.out)); (case s2 => exact HC0_0.out); (case s3 => exact (Kd.F_now HF0_1.out)); (case s4 => exact HC0_1.out); rintro e_ w3 ⟨v0_, v1_, rfl, ho0, ho1, hb⟩; refine ⟨_, rfl, ?_⟩; obtain ⟨lo3, hi3, el_, eh_, ol_, oh_⟩ := Mem.times HT.out hb; (try rw [← el_] at ho0); obtain ⟨A3_0, c3_0, ev_, hc0_, hf0_, hs0_⟩ := Mem.new_S ho0 eh_; subst ev_; (try rw [← el_] at ho1); obtain ⟨A3_1, c3_1, ev_, hc1_, hf1_, hs1_⟩ := Mem.new_S ho1 eh_; subst ev_; have n0_ := aC.mk (Kd.aU HF0_0.out hb); have n1_ := aC.mk (Kd.aU HF0_1.out hb); have n2_ := aC.mk (aM BK1.out hb); have n3_ := aC.mk (aM BK2.out hb); have n4_ := aC.mk (aV HB.out hb); have n5_ := aC.mk (hf0_); have n6_ := aC.mk (hc0_); have n7_ := aC.mk (hs0_); have n8_ := aC.mk (hf1_); have n9_ := aC.mk (hc1_); have n10_ := aC.mk (hs1_); have n11_ := aC.mk (And.intro HORD.out (And.intro ol_ oh_)); have n12_ := aC.mk (Nat.le_of_eq eh_); (try clear HF0_0); (try clear HF0_1); (try clear BK1); (try clear BK2); (try clear HB); (try clear HF3_0); (try clear HC3_0); (try clear HS3_0); (try clear HF3_1); (try clear HC3_1); (try clear HS3_1); (try clear HORD); (try clear HT); have HF0_0 := n0_; have HF0_1 := n1_; have BK1 := n2_; have BK2 := n3_; have HB := n4_; have HF3_0 := n5_; have HC3_0 := n6_; have HS3_0 := n7_; have HF3_1 := n8_; have HC3_1 := n9_; have HS3_1 := n10_; have HORD := n11_; have HT := n12_; clear n0_ n1_ n2_ n3_ n4_ n5_ n6_ n7_ n8_ n9_ n10_ n11_ n12_; clear ol_ oh_ el_ eh_ ho0 hf0_ hc0_ hs0_ ho1 hf1_ hc1_ hs1_; (try clear hb); have hzgb1_0_3 : w3.cell? ⟨gb1, 0, none⟩ = some (.slice A0_0 l0_0.length c0_0) := (aD BK1.out 0).trans rfl; have hygb1_0_3 := aA BK1.out 0; have hzgb1_1_3 : w3.cell? ⟨gb1, 1, none⟩ = some (.slice A0_1 l0_1.length c0_1) := (aD BK1.out 1).trans rfl; have hygb1_1_3 := aA BK1.out 1; have hzgb1_2_3 : w3.cell? ⟨gb1, 2, none⟩ = some (.int .i64 a0_2) := (aD BK1.out 2).trans rfl; have hygb1_2_3 := aA BK1.out 2; have hzgb1_3_3 : w3.cell? ⟨gb1, 3, none⟩ = some (.bool a0_3) := (aD BK1.out 3).trans rfl; have hygb1_3_3 := aA BK1.out 3; have hzgb2_0_3 : w3.cell? ⟨gb2, 0, none⟩ = some (.slice none 0 0) := (aD BK2.out 0).trans rfl; have hygb2_0_3 := aA BK2.out 0; have hzgb2_1_3 : w3.cell? ⟨gb2, 1, none⟩ = some (.slice none 0 0) := (aD BK2.out 1).trans rfl; have hygb2_1_3 := aA BK2.out 1; have hzgb2_2_3 : w3.cell? ⟨gb2, 2, none⟩ = some (.int .i64 0) := (aD BK2.out 2).trans rfl; have hygb2_2_3 := aA BK2.out 2; have hzgb2_3_3 : w3.cell? ⟨gb2, 3, none⟩ = some (.bool false) := (aD BK2.out 3).trans rfl; have hygb2_3_3 := aA BK2.out 3) | ((with_reducible refine bC (N := 3) rfl ?_); refine bB ?hg (N := 3) ?hd (cs := #[.slice none 0 0, .slice none 0 0, .int .i64 0, .bool false]) (t := 25) ?hr ?_; (case hd => rfl); (case hg => rfl); (case hr => first | (go_simp; done) | (go_simp; rfl)); intro gb4 hg_ w4 hbox hb; have hge_ : hi3 ≤ gb4 := (by rw [hg_]; exact HT.out); have hlt_ : gb4 + 1 ≤ w4.heap.size := bG hbox; have n0_ := aC.mk (Kd.aU HF0_0.out hb); have n1_ := aC.mk (Kd.aU HF0_1.out hb); have n2_ := aC.mk (Kd.aU HF3_0.out hb); have n3_ := aC.mk (Kd.bH HS3_0.out hb); have n4_ := aC.mk (Kd.aU HF3_1.out hb); have n5_ := aC.mk (Kd.bH HS3_1.out hb); have n6_ := aC.mk (aM BK1.out hb); have n7_ := aC.mk (aM BK2.out hb); have n8_ := aC.mk (aV HB.out hb); have n9_ := aC.mk (hbox); have n10_ := aC.mk (And.intro HORD.out (And.intro hge_ (Nat.le_succ gb4))); have n11_ := aC.mk (hlt_); (try clear HF0_0); (try clear HF0_1); (try clear HF3_0); (try clear HS3_0); (try clear HF3_1); (try clear HS3_1); (try clear BK1); (try clear BK2); (try clear HB); (try clear BK4); (try clear HORD); (try clear HT); have HF0_0 := n0_; have HF0_1 := n1_; have HF3_0 := n2_; have HS3_0 := n3_; have HF3_1 := n4_; have HS3_1 := n5_; have BK1 := n6_; have BK2 := n7_; have HB := n8_; have BK4 := n9_; have HORD := n10_; have HT := n11_; clear n0_ n1_ n2_ n3_ n4_ n5_ n6_ n7_ n8_ n9_ n10_ n11_; clear hb hbox hg_ hge_ hlt_; have hzgb1_0_4 : w4.cell? ⟨gb1, 0, none⟩ = some (.slice A0_0 l0_0.length c0_0) := (aD BK1.out 0).trans rfl; have hygb1_0_4 := aA BK1.out 0; have hzgb1_1_4 : w4.cell? ⟨gb1, 1, none⟩ = some (.slice A0_1 l0_1.length c0_1) := (aD BK1.out 1).trans rfl; have hygb1_1_4 := aA BK1.out 1; have hzgb1_2_4 : w4.cell? ⟨gb1, 2, none⟩ = some (.int .i64 a0_2) := (aD BK1.out 2).trans rfl; have hygb1_2_4 := aA BK1.out 2; have hzgb1_3_4 : w4.cell? ⟨gb1, 3, none⟩ = some (.bool a0_3) := (aD BK1.out 3).trans rfl; have hygb1_3_4 := aA BK1.out 3; have hzgb2_0_4 : w4.cell? ⟨gb2, 0, none⟩ = some (.slice none 0 0) := (aD BK2.out 0).trans rfl; have hygb2_0_4 := aA BK2.out 0; have hzgb2_1_4 : w4.cell? ⟨gb2, 1, none⟩ = some (.slice none 0 0) := (aD BK2.out 1).trans rfl; have hygb2_1_4 := aA BK2.out 1; have hzgb2_2_4 : w4.cell? ⟨gb2, 2, none⟩ = some (.int .i64 0) := (aD BK2.out 2).trans rfl; have hygb2_2_4 := aA BK2.out 2; have hzgb2_3_4 : w4.cell? ⟨gb2, 3, none⟩ = some (.bool false) := (aD BK2.out 3).trans rfl; have hygb2_3_4 := aA BK2.out 3; have hzgb4_0_4 : w4.cell? ⟨gb4, 0, none⟩ = some (.slice none 0 0) := (aD BK4.out 0).trans rfl; have hygb4_0_4 := aA BK4.out 0; have hzgb4_1_4 : w4.cell? ⟨gb4, 1, none⟩ = some (.slice none 0 0) := (aD BK4.out 1).trans rfl; have hygb4_1_4 := aA BK4.out 1; have hzgb4_2_4 : w4.cell? ⟨gb4, 2, none⟩ = some (.int .i64 0) := (aD BK4.out 2).trans rfl; have hygb4_2_4 := aA BK4.out 2; have hzgb4_3_4 : w4.cell? ⟨gb4, 3, none⟩ = some (.bool false) := (aD BK4.out 3).trans rfl; have hygb4_3_4 := aA BK4.out 3) | ((with_reducible refine bP (t := 25) (p := 3) rfl ?_); refine bK (t := 25) (p := 3) (v := ?vo_w5) (w1 := ((((w4.setCell ⟨gb4, 0, none⟩ (.slice A3_0 l0_0.length c3_0)).setCell ⟨gb4, 1, none⟩ (.slice A3_1 l0_1.length c3_1)).setCell ⟨gb4, 2, none⟩ (.int .i64 a0_2)).setCell ⟨gb4, 3, none⟩ (.bool a0_3))) ?hg ?ho ?hn ?hr ?_; (case ho => rfl); (case hg => rfl); (case hn => rfl); (case hr => first | (go_simp; done) | (go_simp; rfl)); intro w5 hw_; have hkp : Kept w4 w5 (fun k_ => k_ = gb4) := (by rw [hw_]; exact Kept.setCell (Kept.setCell (Kept.setCell (Kept.setCell (Kept.refl w4 (fun k_ => k_ = gb4)) (.inl rfl) (.slice A3_0 l0_0.length c3_0)) (.inl rfl) (.slice A3_1 l0_1.length c3_1)) (.inl rfl) (.int .i64 a0_2)) (.inl rfl) (.bool a0_3)); have hge_ : w.heap.size ≤ gb4 := (by have o_ := HORD.out; (try unfold In at *); (try show _ ≠ _); omega); have hbn_ : Below w.heap.size w w5 := (by rw [hw_]; exact aG (aG (aG (aG (HB.out) hge_) hge_) hge_) hge_); have hbk_ : w5.heap[gb4]? = some (.cells #[.slice A3_0 l0_0.length c3_0, .slice A3_1 l0_1.length c3_1, .int .i64 a0_2, .bool a0_3] 25 (0, 0)) := (by rw [hw_]; exact aX (cs := #[.slice A3_0 l0_0.length c3_0, .slice A3_1 l0_1.length c3_1, .int .i64 a0_2, .bool false]) (cs' := #[.slice A3_0 l0_0.length c3_0, .slice A3_1 l0_1.length c3_1, .int .i64 a0_2, .bool a0_3]) (aX (cs := #[.slice A3_0 l0_0.length c3_0, .slice A3_1 l0_1.length c3_1, .int .i64 0, .bool false]) (cs' := #[.slice A3_0 l0_0.length c3_0, .slice A3_1 l0_1.length c3_1, .int .i64 a0_2, .bool false]) (aX (cs := #[.slice A3_0 l0_0.length c3_0, .slice none 0 0, .int .i64 0, .bool false]) (cs' := #[.slice A3_0 l0_0.length c3_0, .slice A3_1 l0_1.length c3_1, .int .i64 0, .bool false]) (aX (cs := #[.slice none 0 0, .slice none 0 0, .int .i64 0, .bool false]) (cs' := #[.slice A3_0 l0_0.length c3_0, .slice none 0 0, .int .i64 0, .bool false]) (BK4.out) 0 _ rfl) 1 _ rfl) 2 _ rfl) 3 _ rfl); have hsz_ : (gb4 + 1) ≤ w5.heap.size := Nat.le_trans HT.out hkp.1; have n0_ := aC.mk (Kd.aZ HF0_0.out hkp (fun k_ h1_ h2_ => by have o_ := HORD.out; have t_ := HT.out; (try simp only [In2, Up, In, Ex, Exb] at h1_ h2_); omega)); have n1_ := aC.mk (Kd.aZ HF0_1.out hkp (fun k_ h1_ h2_ => by have o_ := HORD.out; have t_ := HT.out; (try simp only [In2, Up, In, Ex, Exb] at h1_ h2_); omega)); have n2_ := aC.mk (Kd.aZ HF3_0.out hkp (fun k_ h1_ h2_ => by have o_ := HORD.out; have t_ := HT.out; (try simp only [In2, Up, In, Ex, Exb] at h1_ h2_); omega)); have n3_ := aC.mk (Kd.S_kept HS3_0.out hkp (fun k_ h1_ h2_ => by have o_ := HORD.out; have t_ := HT.out; (try simp only [In2, Up, In, Ex, Exb] at h1_ h2_); omega)); have n4_ := aC.mk (Kd.aZ HF3_1.out hkp (fun k_ h1_ h2_ => by have o_ := HORD.out; have t_ := HT.out; (try simp only [In2, Up, In, Ex, Exb] at h1_ h2_); omega)); have n5_ := aC.mk (Kd.S_kept HS3_1.out hkp (fun k_ h1_ h2_ => by have o_ := HORD.out; have t_ := HT.out; (try simp only [In2, Up, In, Ex, Exb] at h1_ h2_); omega)); have n6_ := aC.mk (bA BK1.out hkp (fun h2_ => by have o_ := HORD.out; have t_ := HT.out; (try simp only [In2, Up, In, Ex, Exb] at h2_); omega)); have n7_ := aC.mk (bA BK2.out hkp (fun h2_ => by have o_ := HORD.out; have t_ := HT.out; (try simp only [In2, Up, In, Ex, Exb] at h2_); omega)); have n8_ := aC.mk (hbn_); have n9_ := aC.mk (hbk_); have n10_ := aC.mk (hsz_); (try clear HF0_0); (try clear HF0_1); (try clear HF3_0); (try clear HS3_0); (try clear HF3_1); (try clear HS3_1); (try clear BK1); (try clear BK2); (try clear HB); (try clear BK4); (try clear HT); have HF0_0 := n0_; have HF0_1 := n1_; have HF3_0 := n2_; have HS3_0 := n3_; have HF3_1 := n4_; have HS3_1 := n5_; have BK1 := n6_; have BK2 := n7_; have HB := n8_; have BK4 := n9_; have HT := n10_; clear n0_ n1_ n2_ n3_ n4_ n5_ n6_ n7_ n8_ n9_ n10_; clear hw_ hkp hge_ hbn_ hbk_ hsz_; have hzgb1_0_5 : w5.cell? ⟨gb1, 0, none⟩ = some (.slice A0_0 l0_0.length c0_0) := (aD BK1.out 0).trans rfl; have hygb1_0_5 := aA BK1.out 0; have hzgb1_1_5 : w5.cell? ⟨gb1, 1, none⟩ = some (.slice A0_1 l0_1.length c0_1) := (aD BK1.out 1).trans rfl; have hygb1_1_5 := aA BK1.out 1; have hzgb1_2_5 : w5.cell? ⟨gb1, 2, none⟩ = some (.int .i64 a0_2) := (aD BK1.out 2).trans rfl; have hygb1_2_5 := aA BK1.out 2; have hzgb1_3_5 : w5.cell? ⟨gb1, 3, none⟩ = some (.bool a0_3) := (aD BK1.out 3).trans rfl; have hygb1_3_5 := aA BK1.out 3; have hzgb2_0_5 : w5.cell? ⟨gb2, 0, none⟩ = some (.slice none 0 0) := (aD BK2.out 0).trans rfl; have hygb2_0_5 := aA BK2.out 0; have hzgb2_1_5 : w5.cell? ⟨gb2, 1, none⟩ = some (.slice none 0 0) := (aD BK2.out 1).trans rfl; have hygb2_1_5 := aA BK2.out 1; have hzgb2_2_5 : w5.cell? ⟨gb2, 2, none⟩ = some (.int .i64 0) := (aD BK2.out 2).trans rfl; have hygb2_2_5 := aA BK2.out 2; have hzgb2_3_5 : w5.cell? ⟨gb2, 3, none⟩ = some (.bool false) := (aD BK2.out 3).trans rfl; have hygb2_3_5 := aA BK2.out 3; have hzgb4_0_5 : w5.cell? ⟨gb4, 0, none⟩ = some (.slice A3_0 l0_0.length c3_0) := (aD BK4.out 0).trans rfl; have hygb4_0_5 := aA BK4.out 0; have hzgb4_1_5 : w5.cell? ⟨gb4, 1, none⟩ = some (.slice A3_1 l0_1.length c3_1) := (aD BK4.out 1).trans rfl; have hygb4_1_5 := aA BK4.out 1; have hzgb4_2_5 : w5.cell? ⟨gb4, 2, none⟩ = some (.int .i64 a0_2) := (aD BK4.out 2).trans rfl; have hygb4_2_5 := aA BK4.out 2; have hzgb4_3_5 : w5.cell? ⟨gb4, 3, none⟩ = some (.bool a0_3) := (aD BK4.out 3).trans rfl; have hygb4_3_5 := aA BK4.out 3) | ((with_reducible refine aY (f := 18) rfl ?_); refine bJ (some 7) rfl rfl Try.func18 (by kernel_rfl) rfl #[.agg #[.slice A0_0 l0_0.length c0_0, .slice A0_1 l0_1.length c0_1, .int .i64 a0_2, .bool a0_3]] rfl (by (try simp only [List.map_toArray, List.map_cons, List.map_nil]); first | done | rfl | (simp only [List.length_drop, List.length_take]; rfl)) ?_; (with_reducible refine (spec_DevOk.calls kd _ _ l0_0 _ _ l0_1 a0_2 a0_3 false _ ?s1 ?s2 ?s3 ?s4 JD.out).mono ?_); (case s1 => exact (Kd.F_now HF0_0.out)); (case s2 => exact HC0_0.out); (case s3 => exact (Kd.F_now HF0_1.out)); (case s4 => exact HC0_1.out); rintro e_ w6 ⟨rfl, hb⟩; refine ⟨_, rfl, ?_⟩; have n0_ := aC.mk (Kd.aU HF0_0.out hb); have n1_ := aC.mk (Kd.aU HF0_1.out hb); have n2_ := aC.mk (Kd.aU HF3_0.out hb); have n3_ := aC.mk (Kd.bH HS3_0.out hb); have n4_ := aC.mk (Kd.aU HF3_1.out hb); have n5_ := aC.mk (Kd.bH HS3_1.out hb); have n6_ := aC.mk (aM BK1.out hb); have n7_ := aC.mk (aM BK2.out hb); have n8_ := aC.mk (aM BK4.out hb); have n9_ := aC.mk (aV HB.out hb); have n10_ := aC.mk (Nat.le_trans HT.out hb.size); (try clear HF0_0); (try clear HF0_1); (try clear HF3_0); (try clear HS3_0); (try clear HF3_1); (try clear HS3_1); (try clear BK1); (try clear BK2); (try clear BK4); (try clear HB); (try clear HT); have HF0_0 := n0_; have HF0_1 := n1_; have HF3_0 := n2_; have HS3_0 := n3_; have HF3_1 := n4_; have HS3_1 := n5_; have BK1 := n6_; have BK2 := n7_; have BK4 := n8_; have HB := n9_; have HT := n10_; clear n0_ n1_ n2_ n3_ n4_ n5_ n6_ n7_ n8_ n9_ n10_; (try clear hb); have hzgb1_0_6 : w6.cell? ⟨gb1, 0, none⟩ = some (.slice A0_0 l0_0.length c0_0) := (aD BK1.out 0).trans rfl; have hygb1_0_6 := aA BK1.out 0; have hzgb1_1_6 : w6.cell? ⟨gb1, 1, none⟩ = some (.slice A0_1 l0_1.length c0_1) := (aD BK1.out 1).trans rfl; have hygb1_1_6 := aA BK1.out 1; have hzgb1_2_6 : w6.cell? ⟨gb1, 2, none⟩ = some (.int .i64 a0_2) := (aD BK1.out 2).trans rfl; have hygb1_2_6 := aA BK1.out 2; have hzgb1_3_6 : w6.cell? ⟨gb1, 3, none⟩ = some (.bool a0_3) := (aD BK1.out 3).trans rfl; have hygb1_3_6 := aA BK1.out 3; have hzgb2_0_6 : w6.cell? ⟨gb2, 0, none⟩ = some (.slice none 0 0) := (aD BK2.out 0).trans rfl; have hygb2_0_6 := aA BK2.out 0; have hzgb2_1_6 : w6.cell? ⟨gb2, 1, none⟩ = some (.slice none 0 0) := (aD BK2.out 1).trans rfl; have hygb2_1_6 := aA BK2.out 1; have hzgb2_2_6 : w6.cell? ⟨gb2, 2, none⟩ = some (.int .i64 0) := (aD BK2.out 2).trans rfl; have hygb2_2_6 := aA BK2.out 2; have hzgb2_3_6 : w6.cell? ⟨gb2, 3, none⟩ = some (.bool false) := (aD BK2.out 3).trans rfl; have hygb2_3_6 := aA BK2.out 3; have hzgb4_0_6 : w6.cell? ⟨gb4, 0, none⟩ = some (.slice A3_0 l0_0.length c3_0) := (aD BK4.out 0).trans rfl; have hygb4_0_6 := aA BK4.out 0; have hzgb4_1_6 : w6.cell? ⟨gb4, 1, none⟩ = some (.slice A3_1 l0_1.length c3_1) := (aD BK4.out 1).trans rfl; have hygb4_1_6 := aA BK4.out 1; have hzgb4_2_6 : w6.cell? ⟨gb4, 2, none⟩ = some (.int .i64 a0_2) := (aD BK4.out 2).trans rfl; have hygb4_2_6 := aA BK4.out 2; have hzgb4_3_6 : w6.cell? ⟨gb4, 3, none⟩ = some (.bool a0_3) := (aD BK4.out 3).trans rfl; have hygb4_3_6 := aA BK4.out 3) | ((with_reducible refine bP (t := 25) (p := 2) rfl ?_); refine bK (t := 25) (p := 2) (v := ?vo_w7) (w1 := ((((w6.setCell ⟨gb2, 0, none⟩ (.slice A3_0 l0_0.length c3_0)).setCell ⟨gb2, 1, none⟩ (.slice A3_1 l0_1.length c3_1)).setCell ⟨gb2, 2, none⟩ (.int .i64 a0_2)).setCell ⟨gb2, 3, none⟩ (.bool a0_3))) ?hg ?ho ?hn ?hr ?_; (case ho => rfl); (case hg => rfl); (case hn => rfl); (case hr => first | (go_simp; done) | (go_simp; rfl)); intro w7 hw_; have hkp : Kept w6 w7 (fun k_ => k_ = gb2) := (by rw [hw_]; exact Kept.setCell (Kept.setCell (Kept.setCell (Kept.setCell (Kept.refl w6 (fun k_ => k_ = gb2)) (.inl rfl) (.slice A3_0 l0_0.length c3_0)) (.inl rfl) (.slice A3_1 l0_1.length c3_1)) (.inl rfl) (.int .i64 a0_2)) (.inl rfl) (.bool a0_3)); have hge_ : w.heap.size ≤ gb2 := (by have o_ := HORD.out; (try unfold In at *); (try show _ ≠ _); omega); have hbn_ : Below w.heap.size w w7 := (by rw [hw_]; exact aG (aG (aG (aG (HB.out) hge_) hge_) hge_) hge_); have hbk_ : w7.heap[gb2]? = some (.cells #[.slice A3_0 l0_0.length c3_0, .slice A3_1 l0_1.length c3_1, .int .i64 a0_2, .bool a0_3] 25 (0, 0)) := (by rw [hw_]; exact aX (cs := #[.slice A3_0 l0_0.length c3_0, .slice A3_1 l0_1.length c3_1, .int .i64 a0_2, .bool false]) (cs' := #[.slice A3_0 l0_0.length c3_0, .slice A3_1 l0_1.length c3_1, .int .i64 a0_2, .bool a0_3]) (aX (cs := #[.slice A3_0 l0_0.length c3_0, .slice A3_1 l0_1.length c3_1, .int .i64 0, .bool false]) (cs' := #[.slice A3_0 l0_0.length c3_0, .slice A3_1 l0_1.length c3_1, .int .i64 a0_2, .bool false]) (aX (cs := #[.slice A3_0 l0_0.length c3_0, .slice none 0 0, .int .i64 0, .bool false]) (cs' := #[.slice A3_0 l0_0.length c3_0, .slice A3_1 l0_1.length c3_1, .int .i64 0, .bool false]) (aX (cs := #[.slice none 0 0, .slice none 0 0, .int .i64 0, .bool false]) (cs' := #[.slice A3_0 l0_0.length c3_0, .slice none 0 0, .int .i64 0, .bool false]) (BK2.out) 0 _ rfl) 1 _ rfl) 2 _ rfl) 3 _ rfl); have hsz_ : (gb4 + 1) ≤ w7.heap.size := Nat.le_trans HT.out hkp.1; have n0_ := aC.mk (Kd.aZ HF0_0.out hkp (fun k_ h1_ h2_ => by have o_ := HORD.out; have t_ := HT.out; (try simp only [In2, Up, In, Ex, Exb] at h1_ h2_); omega)); have n1_ := aC.mk (Kd.aZ HF0_1.out hkp (fun k_ h1_ h2_ => by have o_ := HORD.out; have t_ := HT.out; (try simp only [In2, Up, In, Ex, Exb] at h1_ h2_); omega)); have n2_ := aC.mk (Kd.aZ HF3_0.out hkp (fun k_ h1_ h2_ => by have o_ := HORD.out; have t_ := HT.out; (try simp only [In2, Up, In, Ex, Exb] at h1_ h2_); omega)); have n3_ := aC.mk (Kd.S_kept HS3_0.out hkp (fun k_ h1_ h2_ => by have o_ := HORD.out; have t_ := HT.out; (try simp only [In2, Up, In, Ex, Exb] at h1_ h2_); omega)); have n4_ := aC.mk (Kd.aZ HF3_1.out hkp (fun k_ h1_ h2_ => by have o_ := HORD.out; have t_ := HT.out; (try simp only [In2, Up, In, Ex, Exb] at h1_ h2_); omega)); have n5_ := aC.mk (Kd.S_kept HS3_1.out hkp (fun k_ h1_ h2_ => by have o_ := HORD.out; have t_ := HT.out; (try simp only [In2, Up, In, Ex, Exb] at h1_ h2_); omega)); have n6_ := aC.mk (bA BK1.out hkp (fun h2_ => by have o_ := HORD.out; have t_ := HT.out; (try simp only [In2, Up, In, Ex, Exb] at h2_); omega)); have n7_ := aC.mk (bA BK4.out hkp (fun h2_ => by have o_ := HORD.out; have t_ := HT.out; (try simp only [In2, Up, In, Ex, Exb] at h2_); omega)); have n8_ := aC.mk (hbn_); have n9_ := aC.mk (hbk_); have n10_ := aC.mk (hsz_); (try clear HF0_0); (try clear HF0_1); (try clear HF3_0); (try clear HS3_0); (try clear HF3_1); (try clear HS3_1); (try clear BK1); (try clear BK4); (try clear HB); (try clear BK2); (try clear HT); have HF0_0 := n0_; have HF0_1 := n1_; have HF3_0 := n2_; have HS3_0 := n3_; have HF3_1 := n4_; have HS3_1 := n5_; have BK1 := n6_; have BK4 := n7_; have HB := n8_; have BK2 := n9_; have HT := n10_; clear n0_ n1_ n2_ n3_ n4_ n5_ n6_ n7_ n8_ n9_ n10_; clear hw_ hkp hge_ hbn_ hbk_ hsz_; have hzgb1_0_7 : w7.cell? ⟨gb1, 0, none⟩ = some (.slice A0_0 l0_0.length c0_0) := (aD BK1.out 0).trans rfl; have hygb1_0_7 := aA BK1.out 0; have hzgb1_1_7 : w7.cell? ⟨gb1, 1, none⟩ = some (.slice A0_1 l0_1.length c0_1) := (aD BK1.out 1).trans rfl; have hygb1_1_7 := aA BK1.out 1; have hzgb1_2_7 : w7.cell? ⟨gb1, 2, none⟩ = some (.int .i64 a0_2) := (aD BK1.out 2).trans rfl; have hygb1_2_7 := aA BK1.out 2; have hzgb1_3_7 : w7.cell? ⟨gb1, 3, none⟩ = some (.bool a0_3) := (aD BK1.out 3).trans rfl; have hygb1_3_7 := aA BK1.out 3; have hzgb2_0_7 : w7.cell? ⟨gb2, 0, none⟩ = some (.slice A3_0 l0_0.length c3_0) := (aD BK2.out 0).trans rfl; have hygb2_0_7 := aA BK2.out 0; have hzgb2_1_7 : w7.cell? ⟨gb2, 1, none⟩ = some (.slice A3_1 l0_1.length c3_1) := (aD BK2.out 1).trans rfl; have hygb2_1_7 := aA BK2.out 1; have hzgb2_2_7 : w7.cell? ⟨gb2, 2, none⟩ = some (.int .i64 a0_2) := (aD BK2.out 2).trans rfl; have hygb2_2_7 := aA BK2.out 2; have hzgb2_3_7 : w7.cell? ⟨gb2, 3, none⟩ = some (.bool a0_3) := (aD BK2.out 3).trans rfl; have hygb2_3_7 := aA BK2.out 3; have hzgb4_0_7 : w7.cell? ⟨gb4, 0, none⟩ = some (.slice A3_0 l0_0.length c3_0) := (aD BK4.out 0).trans rfl; have hygb4_0_7 := aA BK4.out 0; have hzgb4_1_7 : w7.cell? ⟨gb4, 1, none⟩ = some (.slice A3_1 l0_1.length c3_1) := (aD BK4.out 1).trans rfl; have hygb4_1_7 := aA BK4.out 1; have hzgb4_2_7 : w7.cell? ⟨gb4, 2, none⟩ = some (.int .i64 a0_2) := (aD BK4.out 2).trans rfl; have hygb4_2_7 := aA BK4.out 2; have hzgb4_3_7 : w7.cell? ⟨gb4, 3, none⟩ = some (.bool a0_3) := (aD BK4.out 3).trans rfl; have hygb4_3_7 := aA BK4.out 3))
 refine bodyPost_ret (fn := Try.f29) (P := Try.prog) (results_cell_row rfl _ _ gb2 25 #[.slice A3_0 l0_0.length c3_0, .slice A3_1 l0_1.length c3_1, .int .i64 a0_2, .bool a0_3] (0, 0) _ rfl BK2.out Try.underlying25 rfl (by kernel_rfl)) rfl ?_
 exact ⟨_, _, rfl, Kd.N_mono (Kd.N_lower (Kd.R_N (Kd.S_R HS3_0.out)) (by have o_ := HORD.out; omega)) (fun k_ hk_ => by have o_ := HORD.out; have t_ := HT.out; (try simp only [In2, Up, In, Ex, Exb] at hk_); omega), Kd.N_mono (Kd.N_lower (Kd.R_N (Kd.S_R HS3_1.out)) (by have o_ := HORD.out; omega)) (fun k_ hk_ => by have o_ := HORD.out; have t_ := HT.out; (try simp only [In2, Up, In, Ex, Exb] at hk_); omega), HB.out⟩
set_option maxHeartbeats 8000000 in
set_option maxRecDepth 100000 in
theorem walk_FlushDevspec_2 (A0_0 : Option Addr) (c0_0 : Nat) (l0_0 : List (List (Int))) (A0_1 : Option Addr) (c0_1 : Nat) (l0_1 : List (S50)) (a0_2 : Int) (a0_3 : Bool) (w : World) (hf0_0 : Kd.F (Kd.slice 5 (Kd.int .u8)) w (In 0 w.heap.size) A0_0 l0_0.length l0_0) (hc0_0 : l0_0.length ≤ c0_0) (hf0_1 : Kd.F k50 w (In 0 w.heap.size) A0_1 l0_1.length l0_1) (hc0_1 : l0_1.length ≤ c0_1) (hok0 : okByteSS l0_0) (hok1 : okWrS l0_1) (hdo : devOkB l0_0 l0_1 a0_2 = true) :
  Calls Try.prog 29 #[.agg #[.slice A0_0 l0_0.length c0_0, .slice A0_1 l0_1.length c0_1, .int .i64 a0_2, .bool a0_3]] w fun e w' => ∃ v0_ v1_ : Value, e = .returned (.agg #[v0_, v1_, .int .i64 (flushed l0_0 l0_1 a0_2 a0_3).2.2.1, .bool (flushed l0_0 l0_1 a0_2 a0_3).2.2.2]) ∧ Kd.N (Kd.slice 5 (Kd.int .u8)) 37 w' w.heap.size (fun k_ => w.heap.size ≤ k_) v0_ (flushed l0_0 l0_1 a0_2 a0_3).1 ∧ Kd.N k50 50 w' w.heap.size (fun k_ => w.heap.size ≤ k_) v1_ (flushed l0_0 l0_1 a0_2 a0_3).2.1 ∧ Below w.heap.size w w' := by
 have hu25 := Try.underlying25
 have hu50 := Try.underlying50
 have HF0_0 := aC.mk hf0_0
 have HC0_0 := aC.mk hc0_0
 clear hf0_0 hc0_0
 have HF0_1 := aC.mk hf0_1
 have HC0_1 := aC.mk hc0_1
 clear hf0_1 hc0_1
 have HB := aC.mk (Below.refl w.heap.size w)
 have HORD := aC.mk (Nat.le_refl w.heap.size)
 have HT := aC.mk (Nat.le_refl w.heap.size)
 obtain ⟨kc, hc0_⟩ := evGet (spec_l2Copy_ev l0_0 l0_1 a0_2 a0_3 hok0 hok1)
 have JC := aC.mk hc0_
 obtain ⟨kd, hd0_⟩ := evGet (spec_DevOk_ev l0_0 l0_1 a0_2 a0_3 hok0 hok1)
 rw [hdo] at hd0_
 have JD := aC.mk hd0_
 clear hc0_ hd0_
 go_enter Try.func29, Try.ntmps29
 go_wp2_with (first | ((with_reducible refine bC (N := 1) rfl ?_); refine bB ?hg (N := 1) ?hd (cs := #[.slice A0_0 l0_0.length c0_0, .slice A0_1 l0_1.length c0_1, .int .i64 a0_2, .bool a0_3]) (t := 25) ?hr ?_; (case hd => rfl); (case hg => rfl); (case hr => first | (go_simp; done) | (go_simp; rfl)); intro gb1 hg_ w1 hbox hb; have hge_ : w.heap.size ≤ gb1 := (by rw [hg_]; exact HT.out); have hlt_ : gb1 + 1 ≤ w1.heap.size := bG hbox; have n0_ := aC.mk (Kd.aU HF0_0.out hb); have n1_ := aC.mk (Kd.aU HF0_1.out hb); have n2_ := aC.mk (aV HB.out hb); have n3_ := aC.mk (hbox); have n4_ := aC.mk (And.intro HORD.out (And.intro hge_ (Nat.le_succ gb1))); have n5_ := aC.mk (hlt_); (try clear HF0_0); (try clear HF0_1); (try clear HB); (try clear BK1); (try clear HORD); (try clear HT); have HF0_0 := n0_; have HF0_1 := n1_; have HB := n2_; have BK1 := n3_; have HORD := n4_; have HT := n5_; clear n0_ n1_ n2_ n3_ n4_ n5_; clear hb hbox hg_ hge_ hlt_; have hzgb1_0_1 : w1.cell? ⟨gb1, 0, none⟩ = some (.slice A0_0 l0_0.length c0_0) := (aD BK1.out 0).trans rfl; have hygb1_0_1 := aA BK1.out 0; have hzgb1_1_1 : w1.cell? ⟨gb1, 1, none⟩ = some (.slice A0_1 l0_1.length c0_1) := (aD BK1.out 1).trans rfl; have hygb1_1_1 := aA BK1.out 1; have hzgb1_2_1 : w1.cell? ⟨gb1, 2, none⟩ = some (.int .i64 a0_2) := (aD BK1.out 2).trans rfl; have hygb1_2_1 := aA BK1.out 2; have hzgb1_3_1 : w1.cell? ⟨gb1, 3, none⟩ = some (.bool a0_3) := (aD BK1.out 3).trans rfl; have hygb1_3_1 := aA BK1.out 3) | ((with_reducible refine bC (N := 2) rfl ?_); refine bB ?hg (N := 2) ?hd (cs := #[.slice none 0 0, .slice none 0 0, .int .i64 0, .bool false]) (t := 25) ?hr ?_; (case hd => rfl); (case hg => rfl); (case hr => first | (go_simp; done) | (go_simp; rfl)); intro gb2 hg_ w2 hbox hb; have hge_ : (gb1 + 1) ≤ gb2 := (by rw [hg_]; exact HT.out); have hlt_ : gb2 + 1 ≤ w2.heap.size := bG hbox; have n0_ := aC.mk (Kd.aU HF0_0.out hb); have n1_ := aC.mk (Kd.aU HF0_1.out hb); have n2_ := aC.mk (aM BK1.out hb); have n3_ := aC.mk (aV HB.out hb); have n4_ := aC.mk (hbox); have n5_ := aC.mk (And.intro HORD.out (And.intro hge_ (Nat.le_succ gb2))); have n6_ := aC.mk (hlt_); (try clear HF0_0); (try clear HF0_1); (try clear BK1); (try clear HB); (try clear BK2); (try clear HORD); (try clear HT); have HF0_0 := n0_; have HF0_1 := n1_; have BK1 := n2_; have HB := n3_; have BK2 := n4_; have HORD := n5_; have HT := n6_; clear n0_ n1_ n2_ n3_ n4_ n5_ n6_; clear hb hbox hg_ hge_ hlt_; have hzgb1_0_2 : w2.cell? ⟨gb1, 0, none⟩ = some (.slice A0_0 l0_0.length c0_0) := (aD BK1.out 0).trans rfl; have hygb1_0_2 := aA BK1.out 0; have hzgb1_1_2 : w2.cell? ⟨gb1, 1, none⟩ = some (.slice A0_1 l0_1.length c0_1) := (aD BK1.out 1).trans rfl; have hygb1_1_2 := aA BK1.out 1; have hzgb1_2_2 : w2.cell? ⟨gb1, 2, none⟩ = some (.int .i64 a0_2) := (aD BK1.out 2).trans rfl; have hygb1_2_2 := aA BK1.out 2; have hzgb1_3_2 : w2.cell? ⟨gb1, 3, none⟩ = some (.bool a0_3) := (aD BK1.out 3).trans rfl; have hygb1_3_2 := aA BK1.out 3; have hzgb2_0_2 : w2.cell? ⟨gb2, 0, none⟩ = some (.slice none 0 0) := (aD BK2.out 0).trans rfl; have hygb2_0_2 := aA BK2.out 0; have hzgb2_1_2 : w2.cell? ⟨gb2, 1, none⟩ = some (.slice none 0 0) := (aD BK2.out 1).trans rfl; have hygb2_1_2 := aA BK2.out 1; have hzgb2_2_2 : w2.cell? ⟨gb2, 2, none⟩ = some (.int .i64 0) := (aD BK2.out 2).trans rfl; have hygb2_2_2 := aA BK2.out 2; have hzgb2_3_2 : w2.cell? ⟨gb2, 3, none⟩ = some (.bool false) := (aD BK2.out 3).trans rfl; have hygb2_3_2 := aA BK2.out 3) | ((with_reducible refine aY (f := 56) rfl ?_); refine bJ (some 5) rfl rfl Try.func56 (by kernel_rfl) rfl #[.agg #[.slice A0_0 l0_0.length c0_0, .slice A0_1 l0_1.length c0_1, .int .i64 a0_2, .bool a0_3]] rfl (by (try simp only [List.map_toArray, List.map_cons, List.map_nil]); first | done | rfl | (simp only [List.length_drop, List.length_take]; rfl)) ?_; (with_reducible refine (spec_l2Copy.calls kc _ _ l0_0 _ _ l0_1 a0_2 a0_3 l0_0 l0_1 a0_2 a0_3 _ ?s1 ?s2 ?s3 ?s4 JC.out).mono ?_); (case s1 => exact (Kd.F_now HF0_0.out)); (case s2 => exact HC0_0.out); (case s3 => exact (Kd.F_now HF0_1.out)); (case s4 => exact HC0_1.out); rintro e_ w3 ⟨v0_, v1_, rfl, ho0, ho1, hb⟩; refine ⟨_, rfl, ?_⟩; obtain ⟨lo3, hi3, el_, eh_, ol_, oh_⟩ := Mem.times HT.out hb; (try rw [← el_] at ho0); obtain ⟨A3_0, c3_0, ev_, hc0_, hf0_, hs0_⟩ := Mem.new_S ho0 eh_; subst ev_; (try rw [← el_] at ho1); obtain ⟨A3_1, c3_1, ev_, hc1_, hf1_, hs1_⟩ := Mem.new_S ho1 eh_; subst ev_; have n0_ := aC.mk (Kd.aU HF0_0.out hb); have n1_ := aC.mk (Kd.aU HF0_1.out hb); have n2_ := aC.mk (aM BK1.out hb); have n3_ := aC.mk (aM BK2.out hb); have n4_ := aC.mk (aV HB.out hb); have n5_ := aC.mk (hf0_); have n6_ := aC.mk (hc0_); have n7_ := aC.mk (hs0_); have n8_ := aC.mk (hf1_); have n9_ := aC.mk (hc1_); have n10_ := aC.mk (hs1_); have n11_ := aC.mk (And.intro HORD.out (And.intro ol_ oh_)); have n12_ := aC.mk (Nat.le_of_eq eh_); (try clear HF0_0); (try clear HF0_1); (try clear BK1); (try clear BK2); (try clear HB); (try clear HF3_0); (try clear HC3_0); (try clear HS3_0); (try clear HF3_1); (try clear HC3_1); (try clear HS3_1); (try clear HORD); (try clear HT); have HF0_0 := n0_; have HF0_1 := n1_; have BK1 := n2_; have BK2 := n3_; have HB := n4_; have HF3_0 := n5_; have HC3_0 := n6_; have HS3_0 := n7_; have HF3_1 := n8_; have HC3_1 := n9_; have HS3_1 := n10_; have HORD := n11_; have HT := n12_; clear n0_ n1_ n2_ n3_ n4_ n5_ n6_ n7_ n8_ n9_ n10_ n11_ n12_; clear ol_ oh_ el_ eh_ ho0 hf0_ hc0_ hs0_ ho1 hf1_ hc1_ hs1_; (try clear hb); have hzgb1_0_3 : w3.cell? ⟨gb1, 0, none⟩ = some (.slice A0_0 l0_0.length c0_0) := (aD BK1.out 0).trans rfl; have hygb1_0_3 := aA BK1.out 0; have hzgb1_1_3 : w3.cell? ⟨gb1, 1, none⟩ = some (.slice A0_1 l0_1.length c0_1) := (aD BK1.out 1).trans rfl; have hygb1_1_3 := aA BK1.out 1; have hzgb1_2_3 : w3.cell? ⟨gb1, 2, none⟩ = some (.int .i64 a0_2) := (aD BK1.out 2).trans rfl; have hygb1_2_3 := aA BK1.out 2; have hzgb1_3_3 : w3.cell? ⟨gb1, 3, none⟩ = some (.bool a0_3) := (aD BK1.out 3).trans rfl; have hygb1_3_3 := aA BK1.out 3; have hzgb2_0_3 : w3.cell? ⟨gb2, 0, none⟩ = some (.slice none 0 0) := (aD BK2.out 0).trans rfl; have hygb2_0_3 := aA BK2.out 0; have hzgb2_1_3 : w3.cell? ⟨gb2, 1, none⟩ = some (.slice none 0 0) := (aD BK2.out 1).trans rfl; have hygb2_1_3 := aA BK2.out 1; have hzgb2_2_3 : w3.cell? ⟨gb2, 2, none⟩ = some (.int .i64 0) := (aD BK2.out 2).trans rfl; have hygb2_2_3 := aA BK2.out 2; have hzgb2_3_3 : w3.cell? ⟨gb2, 3, none⟩ = some (.bool false) := (aD BK2.out 3).trans rfl; have hygb2_3_3 := aA BK2.out 3) | ((with_reducible refine bC (N := 3) rfl ?_); refine bB ?hg (N := 3) ?hd (cs := #[.slice none 0 0, .slice none 0 0, .int .i64 0, .bool false]) (t := 25) ?hr ?_; (case hd => rfl); (case hg => rfl); (case hr => first | (go_simp; done) | (go_simp; rfl)); intro gb4 hg_ w4 hbox hb; have hge_ : hi3 ≤ gb4 := (by rw [hg_]; exact HT.out); have hlt_ : gb4 + 1 ≤ w4.heap.size := bG hbox; have n0_ := aC.mk (Kd.aU HF0_0.out hb); have n1_ := aC.mk (Kd.aU HF0_1.out hb); have n2_ := aC.mk (Kd.aU HF3_0.out hb); have n3_ := aC.mk (Kd.bH HS3_0.out hb); have n4_ := aC.mk (Kd.aU HF3_1.out hb); have n5_ := aC.mk (Kd.bH HS3_1.out hb); have n6_ := aC.mk (aM BK1.out hb); have n7_ := aC.mk (aM BK2.out hb); have n8_ := aC.mk (aV HB.out hb); have n9_ := aC.mk (hbox); have n10_ := aC.mk (And.intro HORD.out (And.intro hge_ (Nat.le_succ gb4))); have n11_ := aC.mk (hlt_); (try clear HF0_0); (try clear HF0_1); (try clear HF3_0); (try clear HS3_0); (try clear HF3_1); (try clear HS3_1); (try clear BK1); (try clear BK2); (try clear HB); (try clear BK4); (try clear HORD); (try clear HT); have HF0_0 := n0_; have HF0_1 := n1_; have HF3_0 := n2_; have HS3_0 := n3_; have HF3_1 := n4_; have HS3_1 := n5_; have BK1 := n6_; have BK2 := n7_; have HB := n8_; have BK4 := n9_; have HORD := n10_; have HT := n11_; clear n0_ n1_ n2_ n3_ n4_ n5_ n6_ n7_ n8_ n9_ n10_ n11_; clear hb hbox hg_ hge_ hlt_; have hzgb1_0_4 : w4.cell? ⟨gb1, 0, none⟩ = some (.slice A0_0 l0_0.length c0_0) := (aD BK1.out 0).trans rfl; have hygb1_0_4 := aA BK1.out 0; have hzgb1_1_4 : w4.cell? ⟨gb1, 1, none⟩ = some (.slice A0_1 l0_1.length c0_1) := (aD BK1.out 1).trans rfl; have hygb1_1_4 := aA BK1.out 1; have hzgb1_2_4 : w4.cell? ⟨gb1, 2, none⟩ = some (.int .i64 a0_2) := (aD BK1.out 2).trans rfl; have hygb1_2_4 := aA BK1.out 2; have hzgb1_3_4 : w4.cell? ⟨gb1, 3, none⟩ = some (.bool a0_3) := (aD BK1.out 3).trans rfl; have hygb1_3_4 := aA BK1.out 3; have hzgb2_0_4 : w4.cell? ⟨gb2, 0, none⟩ = some (.slice none 0 0) := (aD BK2.out 0).trans rfl; have hygb2_0_4 := aA BK2.out 0; have hzgb2_1_4 : w4.cell? ⟨gb2, 1, none⟩ = some (.slice none 0 0) := (aD BK2.out 1).trans rfl; have hygb2_1_4 := aA BK2.out 1; have hzgb2_2_4 : w4.cell? ⟨gb2, 2, none⟩ = some (.int .i64 0) := (aD BK2.out 2).trans rfl; have hygb2_2_4 := aA BK2.out 2; have hzgb2_3_4 : w4.cell? ⟨gb2, 3, none⟩ = some (.bool false) := (aD BK2.out 3).trans rfl; have hygb2_3_4 := aA BK2.out 3; have hzgb4_0_4 : w4.cell? ⟨gb4, 0, none⟩ = some (.slice none 0 0) := (aD BK4.out 0).trans rfl; have hygb4_0_4 := aA BK4.out 0; have hzgb4_1_4 : w4.cell? ⟨gb4, 1, none⟩ = some (.slice none 0 0) := (aD BK4.out 1).trans rfl; have hygb4_1_4 := aA BK4.out 1; have hzgb4_2_4 : w4.cell? ⟨gb4, 2, none⟩ = some (.int .i64 0) := (aD BK4.out 2).trans rfl; have hygb4_2_4 := aA BK4.out 2; have hzgb4_3_4 : w4.cell? ⟨gb4, 3, none⟩ = some (.bool false) := (aD BK4.out 3).trans rfl; have hygb4_3_4 := aA BK4.out 3) | ((with_reducible refine bP (t := 25) (p := 3) rfl ?_); refine bK (t := 25) (p := 3) (v := ?vo_w5) (w1 := ((((w4.setCell ⟨gb4, 0, none⟩ (.slice A3_0 l0_0.length c3_0)).setCell ⟨gb4, 1, none⟩ (.slice A3_1 l0_1.length c3_1)).setCell ⟨gb4, 2, none⟩ (.int .i64 a0_2)).setCell ⟨gb4, 3, none⟩ (.bool a0_3))) ?hg ?ho ?hn ?hr ?_; (case ho => rfl); (case hg => rfl); (case hn => rfl); (case hr => first | (go_simp; done) | (go_simp; rfl)); intro w5 hw_; have hkp : Kept w4 w5 (fun k_ => k_ = gb4) := (by rw [hw_]; exact Kept.setCell (Kept.setCell (Kept.setCell (Kept.setCell (Kept.refl w4 (fun k_ => k_ = gb4)) (.inl rfl) (.slice A3_0 l0_0.length c3_0)) (.inl rfl) (.slice A3_1 l0_1.length c3_1)) (.inl rfl) (.int .i64 a0_2)) (.inl rfl) (.bool a0_3)); have hge_ : w.heap.size ≤ gb4 := (by have o_ := HORD.out; (try unfold In at *); (try show _ ≠ _); omega); have hbn_ : Below w.heap.size w w5 := (by rw [hw_]; exact aG (aG (aG (aG (HB.out) hge_) hge_) hge_) hge_); have hbk_ : w5.heap[gb4]? = some (.cells #[.slice A3_0 l0_0.length c3_0, .slice A3_1 l0_1.length c3_1, .int .i64 a0_2, .bool a0_3] 25 (0, 0)) := (by rw [hw_]; exact aX (cs := #[.slice A3_0 l0_0.length c3_0, .slice A3_1 l0_1.length c3_1, .int .i64 a0_2, .bool false]) (cs' := #[.slice A3_0 l0_0.length c3_0, .slice A3_1 l0_1.length c3_1, .int .i64 a0_2, .bool a0_3]) (aX (cs := #[.slice A3_0 l0_0.length c3_0, .slice A3_1 l0_1.length c3_1, .int .i64 0, .bool false]) (cs' := #[.slice A3_0 l0_0.length c3_0, .slice A3_1 l0_1.length c3_1, .int .i64 a0_2, .bool false]) (aX (cs := #[.slice A3_0 l0_0.length c3_0, .slice none 0 0, .int .i64 0, .bool false]) (cs' := #[.slice A3_0 l0_0.length c3_0, .slice A3_1 l0_1.length c3_1, .int .i64 0, .bool false]) (aX (cs := #[.slice none 0 0, .slice none 0 0, .int .i64 0, .bool false]) (cs' := #[.slice A3_0 l0_0.length c3_0, .slice none 0 0, .int .i64 0, .bool false]) (BK4.out) 0 _ rfl) 1 _ rfl) 2 _ rfl) 3 _ rfl); have hsz_ : (gb4 + 1) ≤ w5.heap.size := Nat.le_trans HT.out hkp.1; have n0_ := aC.mk (Kd.aZ HF0_0.out hkp (fun k_ h1_ h2_ => by have o_ := HORD.out; have t_ := HT.out; (try simp only [In2, Up, In, Ex, Exb] at h1_ h2_); omega)); have n1_ := aC.mk (Kd.aZ HF0_1.out hkp (fun k_ h1_ h2_ => by have o_ := HORD.out; have t_ := HT.out; (try simp only [In2, Up, In, Ex, Exb] at h1_ h2_); omega)); have n2_ := aC.mk (Kd.aZ HF3_0.out hkp (fun k_ h1_ h2_ => by have o_ := HORD.out; have t_ := HT.out; (try simp only [In2, Up, In, Ex, Exb] at h1_ h2_); omega)); have n3_ := aC.mk (Kd.S_kept HS3_0.out hkp (fun k_ h1_ h2_ => by have o_ := HORD.out; have t_ := HT.out; (try simp only [In2, Up, In, Ex, Exb] at h1_ h2_); omega)); have n4_ := aC.mk (Kd.aZ HF3_1.out hkp (fun k_ h1_ h2_ => by have o_ := HORD.out; have t_ := HT.out; (try simp only [In2, Up, In, Ex, Exb] at h1_ h2_); omega)); have n5_ := aC.mk (Kd.S_kept HS3_1.out hkp (fun k_ h1_ h2_ => by have o_ := HORD.out; have t_ := HT.out; (try simp only [In2, Up, In, Ex, Exb] at h1_ h2_); omega)); have n6_ := aC.mk (bA BK1.out hkp (fun h2_ => by have o_ := HORD.out; have t_ := HT.out; (try simp only [In2, Up, In, Ex, Exb] at h2_); omega)); have n7_ := aC.mk (bA BK2.out hkp (fun h2_ => by have o_ := HORD.out; have t_ := HT.out; (try simp only [In2, Up, In, Ex, Exb] at h2_); omega)); have n8_ := aC.mk (hbn_); have n9_ := aC.mk (hbk_); have n10_ := aC.mk (hsz_); (try clear HF0_0); (try clear HF0_1); (try clear HF3_0); (try clear HS3_0); (try clear HF3_1); (try clear HS3_1); (try clear BK1); (try clear BK2); (try clear HB); (try clear BK4); (try clear HT); have HF0_0 := n0_; have HF0_1 := n1_; have HF3_0 := n2_; have HS3_0 := n3_; have HF3_1 := n4_; have HS3_1 := n5_; have BK1 := n6_; have BK2 := n7_; have HB := n8_; have BK4 := n9_; have HT := n10_; clear n0_ n1_ n2_ n3_ n4_ n5_ n6_ n7_ n8_ n9_ n10_; clear hw_ hkp hge_ hbn_ hbk_ hsz_; have hzgb1_0_5 : w5.cell? ⟨gb1, 0, none⟩ = some (.slice A0_0 l0_0.length c0_0) := (aD BK1.out 0).trans rfl; have hygb1_0_5 := aA BK1.out 0; have hzgb1_1_5 : w5.cell? ⟨gb1, 1, none⟩ = some (.slice A0_1 l0_1.length c0_1) := (aD BK1.out 1).trans rfl; have hygb1_1_5 := aA BK1.out 1; have hzgb1_2_5 : w5.cell? ⟨gb1, 2, none⟩ = some (.int .i64 a0_2) := (aD BK1.out 2).trans rfl; have hygb1_2_5 := aA BK1.out 2; have hzgb1_3_5 : w5.cell? ⟨gb1, 3, none⟩ = some (.bool a0_3) := (aD BK1.out 3).trans rfl; have hygb1_3_5 := aA BK1.out 3; have hzgb2_0_5 : w5.cell? ⟨gb2, 0, none⟩ = some (.slice none 0 0) := (aD BK2.out 0).trans rfl; have hygb2_0_5 := aA BK2.out 0; have hzgb2_1_5 : w5.cell? ⟨gb2, 1, none⟩ = some (.slice none 0 0) := (aD BK2.out 1).trans rfl; have hygb2_1_5 := aA BK2.out 1; have hzgb2_2_5 : w5.cell? ⟨gb2, 2, none⟩ = some (.int .i64 0) := (aD BK2.out 2).trans rfl; have hygb2_2_5 := aA BK2.out 2; have hzgb2_3_5 : w5.cell? ⟨gb2, 3, none⟩ = some (.bool false) := (aD BK2.out 3).trans rfl; have hygb2_3_5 := aA BK2.out 3; have hzgb4_0_5 : w5.cell? ⟨gb4, 0, none⟩ = some (.slice A3_0 l0_0.length c3_0) := (aD BK4.out 0).trans rfl; have hygb4_0_5 := aA BK4.out 0; have hzgb4_1_5 : w5.cell? ⟨gb4, 1, none⟩ = some (.slice A3_1 l0_1.length c3_1) := (aD BK4.out 1).trans rfl; have hygb4_1_5 := aA BK4.out 1; have hzgb4_2_5 : w5.cell? ⟨gb4, 2, none⟩ = some (.int .i64 a0_2) := (aD BK4.out 2).trans rfl; have hygb4_2_5 := aA BK4.out 2; have hzgb4_3_5 : w5.cell? ⟨gb4, 3, none⟩ = some (.bool a0_3) := (aD BK4.out 3).trans rfl; have hygb4_3_5 := aA BK4.out 3) | ((with_reducible refine aY (f := 18) rfl ?_); refine bJ (some 7) rfl rfl Try.func18 (by kernel_rfl) rfl #[.agg #[.slice A0_0 l0_0.length c0_0, .slice A0_1 l0_1.length c0_1, .int .i64 a0_2, .bool a0_3]] rfl (by (try simp only [List.map_toArray, List.map_cons, List.map_nil]); first | done | rfl | (simp only [List.length_drop, List.length_take]; rfl)) ?_; (with_reducible refine (spec_DevOk.calls kd _ _ l0_0 _ _ l0_1 a0_2 a0_3 true _ ?s1 ?s2 ?s3 ?s4 JD.out).mono ?_); (case s1 => exact (Kd.F_now HF0_0.out)); (case s2 => exact HC0_0.out); (case s3 => exact (Kd.F_now HF0_1.out)); (case s4 => exact HC0_1.out); rintro e_ w6 ⟨rfl, hb⟩; refine ⟨_, rfl, ?_⟩; have n0_ := aC.mk (Kd.aU HF0_0.out hb); have n1_ := aC.mk (Kd.aU HF0_1.out hb); have n2_ := aC.mk (Kd.aU HF3_0.out hb); have n3_ := aC.mk (Kd.bH HS3_0.out hb); have n4_ := aC.mk (Kd.aU HF3_1.out hb); have n5_ := aC.mk (Kd.bH HS3_1.out hb); have n6_ := aC.mk (aM BK1.out hb); have n7_ := aC.mk (aM BK2.out hb); have n8_ := aC.mk (aM BK4.out hb); have n9_ := aC.mk (aV HB.out hb); have n10_ := aC.mk (Nat.le_trans HT.out hb.size); (try clear HF0_0); (try clear HF0_1); (try clear HF3_0); (try clear HS3_0); (try clear HF3_1); (try clear HS3_1); (try clear BK1); (try clear BK2); (try clear BK4); (try clear HB); (try clear HT); have HF0_0 := n0_; have HF0_1 := n1_; have HF3_0 := n2_; have HS3_0 := n3_; have HF3_1 := n4_; have HS3_1 := n5_; have BK1 := n6_; have BK2 := n7_; have BK4 := n8_; have HB := n9_; have HT := n10_; clear n0_ n1_ n2_ n3_ n4_ n5_ n6_ n7_ n8_ n9_ n10_; (try clear hb); have hzgb1_0_6 : w6.cell? ⟨gb1, 0, none⟩ = some (.slice A0_0 l0_0.length c0_0) := (aD BK1.out 0).trans rfl; have hygb1_0_6 := aA BK1.out 0; have hzgb1_1_6 : w6.cell? ⟨gb1, 1, none⟩ = some (.slice A0_1 l0_1.length c0_1) := (aD BK1.out 1).trans rfl; have hygb1_1_6 := aA BK1.out 1; have hzgb1_2_6 : w6.cell? ⟨gb1, 2, none⟩ = some (.int .i64 a0_2) := (aD BK1.out 2).trans rfl; have hygb1_2_6 := aA BK1.out 2; have hzgb1_3_6 : w6.cell? ⟨gb1, 3, none⟩ = some (.bool a0_3) := (aD BK1.out 3).trans rfl; have hygb1_3_6 := aA BK1.out 3; have hzgb2_0_6 : w6.cell? ⟨gb2, 0, none⟩ = some (.slice none 0 0) := (aD BK2.out 0).trans rfl; have hygb2_0_6 := aA BK2.out 0; have hzgb2_1_6 : w6.cell? ⟨gb2, 1, none⟩ = some (.slice none 0 0) := (aD BK2.out 1).trans rfl; have hygb2_1_6 := aA BK2.out 1; have hzgb2_2_6 : w6.cell? ⟨gb2, 2, none⟩ = some (.int .i64 0) := (aD BK2.out 2).trans rfl; have hygb2_2_6 := aA BK2.out 2; have hzgb2_3_6 : w6.cell? ⟨gb2, 3, none⟩ = some (.bool false) := (aD BK2.out 3).trans rfl; have hygb2_3_6 := aA BK2.out 3; have hzgb4_0_6 : w6.cell? ⟨gb4, 0, none⟩ = some (.slice A3_0 l0_0.length c3_0) := (aD BK4.out 0).trans rfl; have hygb4_0_6 := aA BK4.out 0; have hzgb4_1_6 : w6.cell? ⟨gb4, 1, none⟩ = some (.slice A3_1 l0_1.length c3_1) := (aD BK4.out 1).trans rfl; have hygb4_1_6 := aA BK4.out 1; have hzgb4_2_6 : w6.cell? ⟨gb4, 2, none⟩ = some (.int .i64 a0_2) := (aD BK4.out 2).trans rfl; have hygb4_2_6 := aA BK4.out 2; have hzgb4_3_6 : w6.cell? ⟨gb4, 3, none⟩ = some (.bool a0_3) := (aD BK4.out 3).trans rfl; have hygb4_3_6 := aA BK4.out 3) | ((with_reducible refine aY (f := 60) rfl ?_); refine bJ (some 8) rfl rfl Try.func60 (by kernel_rfl) rfl #[.pointer (some ⟨gb4, 0, none⟩)] rfl (by (try simp only [List.map_toArray, List.map_cons, List.map_nil]); first | done | rfl | (simp only [List.length_drop, List.length_take]; rfl)) ?_; obtain ⟨gS_, hSl_, hSe_, hS4_⟩ := own_num (.slice A3_0 l0_0.length c3_0) w6.heap.size (by have o_ := HORD.out; have t_ := HT.out; omega) (Kd.S_lt HS3_0.out); obtain ⟨gC_, hCl_, hCe_, hC4_⟩ := own_num (.slice A3_1 l0_1.length c3_1) w6.heap.size (by have o_ := HORD.out; have t_ := HT.out; omega) (Kd.S_lt HS3_1.out); have hn0_ := Kd.N_mono (ok' := Ex lo3 gC_ gb4) (Kd.R_N (Kd.S_R (Kd.S_apart' (Kd.S_lower HS3_0.out (by have o_ := HORD.out; omega) : Kd.S (Kd.slice 5 (Kd.int .u8)) 37 w6 w.heap.size (In lo3 hi3) (.slice A3_0 l0_0.length c3_0) l0_0) (Kd.S_typed HS3_1.out) (by decide)))) (fun k_ hk_ => ⟨hk_.1.1, ex_of hC4_ hCe_ hk_.2 (by have h1_ := hk_.1.1; have o_ := HORD.out; omega), by have h1_ := hk_.1.2; have o_ := HORD.out; omega⟩); have hn1_ := Kd.N_mono (ok' := Ex lo3 gS_ gb4) (Kd.R_N (Kd.S_R (Kd.S_apart' (Kd.S_lower HS3_1.out (by have o_ := HORD.out; omega) : Kd.S k50 50 w6 w.heap.size (In lo3 hi3) (.slice A3_1 l0_1.length c3_1) l0_1) (Kd.S_typed HS3_0.out) (by decide)))) (fun k_ hk_ => ⟨hk_.1.1, ex_of hS4_ hSe_ hk_.2 (by have h1_ := hk_.1.1; have o_ := HORD.out; omega), by have h1_ := hk_.1.2; have o_ := HORD.out; omega⟩); have hgS_ := ex_of hS4_ hSe_ (Kd.S_ne HS3_0.out BK4.out (by decide)) (by have o_ := HORD.out; have t_ := HT.out; omega); have hgC_ := ex_of hC4_ hCe_ (Kd.S_ne HS3_1.out BK4.out (by decide)) (by have o_ := HORD.out; have t_ := HT.out; omega); (with_reducible refine (spec_l2FlushS.calls _ _ l0_0 _ _ l0_1 a0_2 a0_3 w _ gb4 HB.out BK4.out lo3 gS_ gC_ ?s1 ?s2 ⟨hSl_, hgS_⟩ ⟨hCl_, hgC_⟩ hCe_ hSe_ hn0_ hn1_ (okWrS_len hok1) (fun i_ hx_ hi_ => devOk_at hdo hx_ hi_)).mono ?_); (case s1 => exact (by have o_ := HORD.out; have t_ := HT.out; omega)); (case s2 => exact (by have o_ := HORD.out; have t_ := HT.out; omega)); rintro e_ w7 ⟨rfl, hwp_⟩; refine ⟨_, rfl, ?_⟩; unfold FlPost at hwp_; obtain ⟨u0_, u1_, gn7, hbk_, hgn_, hgl_, hm0_, hm1_, hbn_, hkp⟩ := hwp_; obtain ⟨ys7, ey_⟩ : ∃ y_, y_ = (flushed l0_0 l0_1 a0_2 a0_3).2.1 := ⟨_, rfl⟩; obtain ⟨ys7a, ey2_⟩ : ∃ y_, y_ = (flushed l0_0 l0_1 a0_2 a0_3).1 := ⟨_, rfl⟩; rw [← ey2_] at hm0_; have HY7a := aC.mk ey2_; clear ey2_; obtain ⟨A7a, c7a, ev_⟩ := Kd.N_slice hm0_; subst ev_; rw [← ey_] at hm1_; have HY7 := aC.mk ey_; obtain ⟨A7, c7, ev_⟩ := Kd.N_slice hm1_; subst ev_; obtain ⟨hi7, e2_⟩ : ∃ n_, n_ = w7.heap.size := ⟨_, rfl⟩; have ol_ : (gb4 + 1) ≤ hi7 := (by rw [e2_]; exact Nat.le_trans HT.out hkp.1); rw [← e2_] at hgl_; replace hm0_ := Kd.N_mono (ok' := Exb lo3 gn7 gb4 hi7) (Kd.N_bound hm0_) (fun k_ hk_ => ⟨hk_.1, by rw [e2_]; exact hk_.2⟩); replace hm1_ := Kd.N_mono (ok' := Exb lo3 gS_ gb4 hi7) (Kd.N_bound hm1_) (fun k_ hk_ => ⟨hk_.1, by rw [e2_]; exact hk_.2⟩); have n0_ := aC.mk (Kd.aZ HF0_0.out hkp (fun k_ h1_ h2_ => by have o_ := HORD.out; have t_ := HT.out; (try simp only [In2, Up, In, Ex, Exb] at h1_ h2_); omega)); have n1_ := aC.mk (Kd.aZ HF0_1.out hkp (fun k_ h1_ h2_ => by have o_ := HORD.out; have t_ := HT.out; (try simp only [In2, Up, In, Ex, Exb] at h1_ h2_); omega)); have n2_ := aC.mk (bA BK1.out hkp (fun h2_ => by have o_ := HORD.out; have t_ := HT.out; (try simp only [In2, Up, In, Ex, Exb] at h2_); omega)); have n3_ := aC.mk (bA BK2.out hkp (fun h2_ => by have o_ := HORD.out; have t_ := HT.out; (try simp only [In2, Up, In, Ex, Exb] at h2_); omega)); have n4_ := aC.mk (hbn_); have n5_ := aC.mk (hbk_); have n6_ := aC.mk (And.intro HORD.out (And.intro ol_ hgl_)); have n7_ := aC.mk (Nat.le_of_eq e2_); have n8_ := aC.mk (hm0_); have n9_ := aC.mk (hm1_); (try clear HF0_0); (try clear HF0_1); (try clear BK1); (try clear BK2); (try clear HB); (try clear BK4); (try clear HORD); (try clear HT); (try clear HM7); (try clear HN7); have HF0_0 := n0_; have HF0_1 := n1_; have BK1 := n2_; have BK2 := n3_; have HB := n4_; have BK4 := n5_; have HORD := n6_; have HT := n7_; have HM7 := n8_; have HN7 := n9_; clear n0_ n1_ n2_ n3_ n4_ n5_ n6_ n7_ n8_ n9_; clear hbk_ hbn_ hkp hm0_ hm1_ hgn_ hgl_ ol_ e2_ ey_; have hzgb1_0_7 : w7.cell? ⟨gb1, 0, none⟩ = some (.slice A0_0 l0_0.length c0_0) := (aD BK1.out 0).trans rfl; have hygb1_0_7 := aA BK1.out 0; have hzgb1_1_7 : w7.cell? ⟨gb1, 1, none⟩ = some (.slice A0_1 l0_1.length c0_1) := (aD BK1.out 1).trans rfl; have hygb1_1_7 := aA BK1.out 1; have hzgb1_2_7 : w7.cell? ⟨gb1, 2, none⟩ = some (.int .i64 a0_2) := (aD BK1.out 2).trans rfl; have hygb1_2_7 := aA BK1.out 2; have hzgb1_3_7 : w7.cell? ⟨gb1, 3, none⟩ = some (.bool a0_3) := (aD BK1.out 3).trans rfl; have hygb1_3_7 := aA BK1.out 3; have hzgb2_0_7 : w7.cell? ⟨gb2, 0, none⟩ = some (.slice none 0 0) := (aD BK2.out 0).trans rfl; have hygb2_0_7 := aA BK2.out 0; have hzgb2_1_7 : w7.cell? ⟨gb2, 1, none⟩ = some (.slice none 0 0) := (aD BK2.out 1).trans rfl; have hygb2_1_7 := aA BK2.out 1; have hzgb2_2_7 : w7.cell? ⟨gb2, 2, none⟩ = some (.int .i64 0) := (aD BK2.out 2).trans rfl; have hygb2_2_7 := aA BK2.out 2; have hzgb2_3_7 : w7.cell? ⟨gb2, 3, none⟩ = some (.bool false) := (aD BK2.out 3).trans rfl; have hygb2_3_7 := aA BK2.out 3; have hzgb4_0_7 : w7.cell? ⟨gb4, 0, none⟩ = some (.slice A7a ys7a.length c7a) := (aD BK4.out 0).trans rfl; have hygb4_0_7 := aA BK4.out 0; have hzgb4_1_7 : w7.cell? ⟨gb4, 1, none⟩ = some (.slice A7 ys7.length c7) := (aD BK4.out 1).trans rfl; have hygb4_1_7 := aA BK4.out 1; have hzgb4_2_7 : w7.cell? ⟨gb4, 2, none⟩ = some (.int .i64 ((flushed l0_0 l0_1 a0_2 a0_3).2.2.1)) := (aD BK4.out 2).trans rfl; have hygb4_2_7 := aA BK4.out 2; have hzgb4_3_7 : w7.cell? ⟨gb4, 3, none⟩ = some (.bool ((flushed l0_0 l0_1 a0_2 a0_3).2.2.2)) := (aD BK4.out 3).trans rfl; have hygb4_3_7 := aA BK4.out 3) | ((with_reducible refine bP (t := 25) (p := 2) rfl ?_); refine bK (t := 25) (p := 2) (v := ?vo_w8) (w1 := ((((w7.setCell ⟨gb2, 0, none⟩ (.slice A7a ys7a.length c7a)).setCell ⟨gb2, 1, none⟩ (.slice A7 ys7.length c7)).setCell ⟨gb2, 2, none⟩ (.int .i64 ((flushed l0_0 l0_1 a0_2 a0_3).2.2.1))).setCell ⟨gb2, 3, none⟩ (.bool ((flushed l0_0 l0_1 a0_2 a0_3).2.2.2)))) ?hg ?ho ?hn ?hr ?_; (case ho => rfl); (case hg => rfl); (case hn => rfl); (case hr => first | (go_simp; done) | (go_simp; rfl)); intro w8 hw_; have hkp : Kept w7 w8 (fun k_ => k_ = gb2) := (by rw [hw_]; exact Kept.setCell (Kept.setCell (Kept.setCell (Kept.setCell (Kept.refl w7 (fun k_ => k_ = gb2)) (.inl rfl) (.slice A7a ys7a.length c7a)) (.inl rfl) (.slice A7 ys7.length c7)) (.inl rfl) (.int .i64 ((flushed l0_0 l0_1 a0_2 a0_3).2.2.1))) (.inl rfl) (.bool ((flushed l0_0 l0_1 a0_2 a0_3).2.2.2))); have hge_ : w.heap.size ≤ gb2 := (by have o_ := HORD.out; (try unfold In at *); (try show _ ≠ _); omega); have hbn_ : Below w.heap.size w w8 := (by rw [hw_]; exact aG (aG (aG (aG (HB.out) hge_) hge_) hge_) hge_); have hbk_ : w8.heap[gb2]? = some (.cells #[.slice A7a ys7a.length c7a, .slice A7 ys7.length c7, .int .i64 ((flushed l0_0 l0_1 a0_2 a0_3).2.2.1), .bool ((flushed l0_0 l0_1 a0_2 a0_3).2.2.2)] 25 (0, 0)) := (by rw [hw_]; exact aX (cs := #[.slice A7a ys7a.length c7a, .slice A7 ys7.length c7, .int .i64 ((flushed l0_0 l0_1 a0_2 a0_3).2.2.1), .bool false]) (cs' := #[.slice A7a ys7a.length c7a, .slice A7 ys7.length c7, .int .i64 ((flushed l0_0 l0_1 a0_2 a0_3).2.2.1), .bool ((flushed l0_0 l0_1 a0_2 a0_3).2.2.2)]) (aX (cs := #[.slice A7a ys7a.length c7a, .slice A7 ys7.length c7, .int .i64 0, .bool false]) (cs' := #[.slice A7a ys7a.length c7a, .slice A7 ys7.length c7, .int .i64 ((flushed l0_0 l0_1 a0_2 a0_3).2.2.1), .bool false]) (aX (cs := #[.slice A7a ys7a.length c7a, .slice none 0 0, .int .i64 0, .bool false]) (cs' := #[.slice A7a ys7a.length c7a, .slice A7 ys7.length c7, .int .i64 0, .bool false]) (aX (cs := #[.slice none 0 0, .slice none 0 0, .int .i64 0, .bool false]) (cs' := #[.slice A7a ys7a.length c7a, .slice none 0 0, .int .i64 0, .bool false]) (BK2.out) 0 _ rfl) 1 _ rfl) 2 _ rfl) 3 _ rfl); have hsz_ : hi7 ≤ w8.heap.size := Nat.le_trans HT.out hkp.1; have n0_ := aC.mk (Kd.aZ HF0_0.out hkp (fun k_ h1_ h2_ => by have o_ := HORD.out; have t_ := HT.out; (try simp only [In2, Up, In, Ex, Exb] at h1_ h2_); omega)); have n1_ := aC.mk (Kd.aZ HF0_1.out hkp (fun k_ h1_ h2_ => by have o_ := HORD.out; have t_ := HT.out; (try simp only [In2, Up, In, Ex, Exb] at h1_ h2_); omega)); have n2_ := aC.mk (Kd.N_kept HM7.out hkp (fun k_ h1_ h2_ => by have o_ := HORD.out; have t_ := HT.out; (try simp only [In2, Up, In, Ex, Exb] at h1_ h2_); omega)); have n3_ := aC.mk (Kd.N_kept HN7.out hkp (fun k_ h1_ h2_ => by have o_ := HORD.out; have t_ := HT.out; (try simp only [In2, Up, In, Ex, Exb] at h1_ h2_); omega)); have n4_ := aC.mk (bA BK1.out hkp (fun h2_ => by have o_ := HORD.out; have t_ := HT.out; (try simp only [In2, Up, In, Ex, Exb] at h2_); omega)); have n5_ := aC.mk (bA BK4.out hkp (fun h2_ => by have o_ := HORD.out; have t_ := HT.out; (try simp only [In2, Up, In, Ex, Exb] at h2_); omega)); have n6_ := aC.mk (hbn_); have n7_ := aC.mk (hbk_); have n8_ := aC.mk (hsz_); (try clear HF0_0); (try clear HF0_1); (try clear HM7); (try clear HN7); (try clear BK1); (try clear BK4); (try clear HB); (try clear BK2); (try clear HT); have HF0_0 := n0_; have HF0_1 := n1_; have HM7 := n2_; have HN7 := n3_; have BK1 := n4_; have BK4 := n5_; have HB := n6_; have BK2 := n7_; have HT := n8_; clear n0_ n1_ n2_ n3_ n4_ n5_ n6_ n7_ n8_; clear hw_ hkp hge_ hbn_ hbk_ hsz_; have hzgb1_0_8 : w8.cell? ⟨gb1, 0, none⟩ = some (.slice A0_0 l0_0.length c0_0) := (aD BK1.out 0).trans rfl; have hygb1_0_8 := aA BK1.out 0; have hzgb1_1_8 : w8.cell? ⟨gb1, 1, none⟩ = some (.slice A0_1 l0_1.length c0_1) := (aD BK1.out 1).trans rfl; have hygb1_1_8 := aA BK1.out 1; have hzgb1_2_8 : w8.cell? ⟨gb1, 2, none⟩ = some (.int .i64 a0_2) := (aD BK1.out 2).trans rfl; have hygb1_2_8 := aA BK1.out 2; have hzgb1_3_8 : w8.cell? ⟨gb1, 3, none⟩ = some (.bool a0_3) := (aD BK1.out 3).trans rfl; have hygb1_3_8 := aA BK1.out 3; have hzgb2_0_8 : w8.cell? ⟨gb2, 0, none⟩ = some (.slice A7a ys7a.length c7a) := (aD BK2.out 0).trans rfl; have hygb2_0_8 := aA BK2.out 0; have hzgb2_1_8 : w8.cell? ⟨gb2, 1, none⟩ = some (.slice A7 ys7.length c7) := (aD BK2.out 1).trans rfl; have hygb2_1_8 := aA BK2.out 1; have hzgb2_2_8 : w8.cell? ⟨gb2, 2, none⟩ = some (.int .i64 ((flushed l0_0 l0_1 a0_2 a0_3).2.2.1)) := (aD BK2.out 2).trans rfl; have hygb2_2_8 := aA BK2.out 2; have hzgb2_3_8 : w8.cell? ⟨gb2, 3, none⟩ = some (.bool ((flushed l0_0 l0_1 a0_2 a0_3).2.2.2)) := (aD BK2.out 3).trans rfl; have hygb2_3_8 := aA BK2.out 3; have hzgb4_0_8 : w8.cell? ⟨gb4, 0, none⟩ = some (.slice A7a ys7a.length c7a) := (aD BK4.out 0).trans rfl; have hygb4_0_8 := aA BK4.out 0; have hzgb4_1_8 : w8.cell? ⟨gb4, 1, none⟩ = some (.slice A7 ys7.length c7) := (aD BK4.out 1).trans rfl; have hygb4_1_8 := aA BK4.out 1; have hzgb4_2_8 : w8.cell? ⟨gb4, 2, none⟩ = some (.int .i64 ((flushed l0_0 l0_1 a0_2 a0_3).2.2.1)) := (aD BK4.out 2).trans rfl; have hygb4_2_8 := aA BK4.out 2; have hzgb4_3_8 : w8.cell? ⟨gb4, 3, none⟩ = some (.bool ((flushed l0_0 l0_1 a0_2 a0_3).2.2.2)) := (aD BK4.out 3).trans rfl; have hygb4_3_8 := aA BK4.out 3))
 refine bodyPost_ret (fn := Try.f29) (P := Try.prog) (results_cell_row rfl _ _ gb2 25 #[.slice A7a ys7a.length c7a, .slice A7 ys7.length c7, .int .i64 ((flushed l0_0 l0_1 a0_2 a0_3).2.2.1), .bool ((flushed l0_0 l0_1 a0_2 a0_3).2.2.2)] (0, 0) _ rfl BK2.out Try.underlying25 rfl (by kernel_rfl)) rfl ?_
 exact ⟨_, _, rfl, (by rw [← HY7a.out]; exact Kd.N_mono (Kd.N_lower (HM7.out) (by have o_ := HORD.out; omega)) (fun k_ hk_ => by have o_ := HORD.out; have t_ := HT.out; (try simp only [In2, Up, In, Ex, Exb] at hk_); omega)), (by rw [← HY7.out]; exact Kd.N_mono (Kd.N_lower (HN7.out) (by have o_ := HORD.out; omega)) (fun k_ hk_ => by have o_ := HORD.out; have t_ := HT.out; (try simp only [In2, Up, In, Ex, Exb] at hk_); omega)), HB.out⟩
def spec_FlushDev.f (l0_0 : List (List Int)) (l0_1 : List (S50)) (a0_2 : Int) (a0_3 : Bool) : Option (List (List Int) × List (S50) × Int × Bool) := if okDevB l0_0 l0_1 = true then some (flushDev l0_0 l0_1 a0_2 a0_3) else none
theorem spec_FlushDev.calls (P0_0_ : Nat → Prop) (A0_0 : Option Addr) (c0_0 : Nat) (l0_0 : List (List Int)) (P0_1_ : Nat → Prop) (A0_1 : Option Addr) (c0_1 : Nat) (l0_1 : List (S50)) (a0_2 : Int) (a0_3 : Bool) (r1 : List (List Int)) (r2 : List (S50)) (r3 : Int) (r4 : Bool) (w : World) (hs0_0 : Kd.V (Kd.slice 5 (Kd.int .u8)) 37 w w.heap.size (fun k_ => P0_0_ k_) (.slice A0_0 l0_0.length c0_0) l0_0) (hs0_1 : Kd.V k50 50 w w.heap.size (fun k_ => P0_1_ k_) (.slice A0_1 l0_1.length c0_1) l0_1) (h : spec_FlushDev.f l0_0 l0_1 a0_2 a0_3 = some (r1, r2, r3, r4)) :
  Calls Try.prog 29 #[.agg #[.slice A0_0 l0_0.length c0_0, .slice A0_1 l0_1.length c0_1, .int .i64 a0_2, .bool a0_3]] w fun e w' => ∃ v0_ v1_ : Value, e = .returned (.agg #[v0_, v1_, .int .i64 r3, .bool r4]) ∧ Kd.N (Kd.slice 5 (Kd.int .u8)) 37 w' w.heap.size (fun k_ => w.heap.size ≤ k_) v0_ r1 ∧ Kd.N k50 50 w' w.heap.size (fun k_ => w.heap.size ≤ k_) v1_ r2 ∧ Below w.heap.size w w' := by
 obtain ⟨_, hc0_, hf0_⟩ := Kd.V_at hs0_0
 obtain ⟨_, hc1_, hf1_⟩ := Kd.V_at hs0_1
 replace hf0_ := Kd.F_mono (ok' := In 0 w.heap.size) (Kd.F_bound hf0_) (fun k hk => ⟨Nat.zero_le k, hk.2⟩)
 replace hf1_ := Kd.F_mono (ok' := In 0 w.heap.size) (Kd.F_bound hf1_) (fun k hk => ⟨Nat.zero_le k, hk.2⟩)
 unfold spec_FlushDev.f at h
 split at h
 ·rename_i hok
  unfold okDevB at hok
  simp only [Bool.and_eq_true, decide_eq_true_eq] at hok
  obtain ⟨hok0, hok1⟩ := hok
  injection h with h
  unfold flushDev at h
  by_cases hdo : devOkB l0_0 l0_1 a0_2 = true
  ·rw [if_pos hdo] at h
   simp only [Prod.mk.injEq, Prod.ext_iff] at h
   obtain ⟨rfl, rfl, rfl, rfl⟩ := h
   exact walk_FlushDevspec_2 _ _ _ _ _ _ _ _ w hf0_ hc0_ hf1_ hc1_  hok0 hok1 hdo
  ·rw [if_neg hdo] at h
   simp only [Prod.mk.injEq] at h
   obtain ⟨rfl, rfl, rfl, rfl⟩ := h
   exact walk_FlushDevspec_1 _ _ _ _ _ _ _ _ w hf0_ hc0_ hf1_ hc1_  hok0 hok1 (by simpa using hdo)
 ·cases h
theorem spec_FlushDev_ev (s : List (List Int)) (c : List (S50)) (f : Int) (d : Bool)  (h1 : okByteSS s) (h2 : okWrS c) : Ev (fun _ => spec_FlushDev.f s c f d ) (flushDev s c f d ) := evOf (fun _ => by
 unfold spec_FlushDev.f okDevB
 unfold okByteSS at h1
 unfold okWrS at h2
 rw [if_pos (by simp [h1, h2])])
end Go.Proofs.Ytilhcaofpfeioaa.Law
