/- The law: the functions that it reaches, each with the proof that the machine's call comes to its answer, what they answer, and the law's row; each theorem says its conditions itself. -/
import Derived.Test.YtilhcaofpfeioaaZFnDevs2
namespace Go.Proofs.Ytilhcaofpfeioaa.Law
open Go.RowKit Go.Proofs.Ytilhcaofpfeioaa.PFnDevs Go.Proofs.Ytilhcaofpfeioaa.Core Go.Proofs.YtilhcaofpfeioaaW.PrintWords Go.Proofs.YtilhcaofpfeioaaW.PrintLast Go.Proofs.YtilhcaofpfeioaaW.PrintMore Go.Proofs.Ytilhcaofpfeioaa.Pure
set_option linter.unusedSimpArgs false
set_option linter.unusedVariables false
theorem spec_l1In_f (a b c : Int) : spec_l1In.f a b c = some (decide (b ≤ a ∧ a ≤ c)) := by
 unfold spec_l1In.f
 by_cases h : a ≥ b
 ·rw [if_pos h]; congr 1; rw [Bool.eq_iff_iff]; simp; omega
 ·rw [if_neg h]; congr 1; rw [Bool.eq_iff_iff]; simp; omega
set_option maxHeartbeats 8000000 in
set_option maxRecDepth 100000 in
theorem walk_l2Op0 (u0_ u1_ : Value) (a0_3 : Bool) (w wi : World) (g : Nat) (hB : Below w.heap.size w wi) (hbk : wi.heap[g]? = some (.cells #[u0_, u1_, .int .i64 0, .bool a0_3] 25 (0, 0))) (hgg : w.heap.size ≤ g) :
  Calls Try.prog 72 #[.pointer (some ⟨g, 0, none⟩)] wi fun e w' => e = .returned (.bool false) ∧ w'.heap[g]? = some (.cells #[u0_, u1_, .int .i64 (-1), .bool true] 25 (0, 0)) ∧ Below w.heap.size w w' ∧ Kept wi w' (fun k_ => k_ = g) := by
 have hu25 := Try.underlying25
 have HB := aD.mk hB
 have BKg := aD.mk hbk
 have HKP := aD.mk (Kept.refl wi (fun k_ => k_ = g))
 have HORD := aD.mk (And.intro hgg (Nat.le_succ g))
 have HT := aD.mk (show g + 1 ≤ wi.heap.size from bJ hbk)
 clear hB hbk
 go_enter Try.func72, Try.ntmps72
 have hzg_0_0 : wi.cell? ⟨g, 0, none⟩ = some (u0_) := (aC BKg.out 0).trans rfl
 have hyg_0_0 := aA BKg.out 0
 have hzg_1_0 : wi.cell? ⟨g, 1, none⟩ = some (u1_) := (aC BKg.out 1).trans rfl
 have hyg_1_0 := aA BKg.out 1
 have hzg_2_0 : wi.cell? ⟨g, 2, none⟩ = some (.int .i64 0) := (aC BKg.out 2).trans rfl
 have hyg_2_0 := aA BKg.out 2
 have hzg_3_0 : wi.cell? ⟨g, 3, none⟩ = some (.bool a0_3) := (aC BKg.out 3).trans rfl
 have hyg_3_0 := aA BKg.out 3
 go_wp2_with (first | ((with_reducible refine bK (t := 4) (p := 10) rfl ?_); refine bG (t := 4) (p := 10) (v := ?vo_w1) (w1 := (wi.setCell ⟨g, 3, none⟩ (.bool true))) ?hg ?ho ?hn ?hr ?_; (case ho => rfl); (case hg => rfl); (case hn => rfl); (case hr => first | (go_simp; done) | (go_simp; rfl)); intro w1 hw_; have hkp : Kept wi w1 (fun k_ => k_ = g) := (by rw [hw_]; exact Kept.setCell (Kept.refl wi (fun k_ => k_ = g)) (.inl rfl) (.bool true)); have hge_ : w.heap.size ≤ g := (by have o_ := HORD.out; (try unfold In at *); (try show _ ≠ _); omega); have hbn_ : Below w.heap.size w w1 := (by rw [hw_]; exact aG (HB.out) hge_); have hbk_ : w1.heap[g]? = some (.cells #[u0_, u1_, .int .i64 0, .bool true] 25 (0, 0)) := (by rw [hw_]; exact aT (cs := #[u0_, u1_, .int .i64 0, .bool a0_3]) (cs' := #[u0_, u1_, .int .i64 0, .bool true]) (BKg.out) 3 _ rfl); have hsz_ : (g + 1) ≤ w1.heap.size := Nat.le_trans HT.out hkp.1; have n0_ := aD.mk (HKP.out.then_ hkp (fun k_ h_ => by have o_ := HORD.out; have t_ := HT.out; (try simp only [In2, Up, In, Ex, Exb] at h_ ⊢); omega)); have n1_ := aD.mk (hbn_); have n2_ := aD.mk (hbk_); have n3_ := aD.mk (hsz_); (try clear HKP); (try clear HB); (try clear BKg); (try clear HT); have HKP := n0_; have HB := n1_; have BKg := n2_; have HT := n3_; clear n0_ n1_ n2_ n3_; clear hw_ hkp hge_ hbn_ hbk_ hsz_; have hzg_0_1 : w1.cell? ⟨g, 0, none⟩ = some (u0_) := (aC BKg.out 0).trans rfl; have hyg_0_1 := aA BKg.out 0; have hzg_1_1 : w1.cell? ⟨g, 1, none⟩ = some (u1_) := (aC BKg.out 1).trans rfl; have hyg_1_1 := aA BKg.out 1; have hzg_2_1 : w1.cell? ⟨g, 2, none⟩ = some (.int .i64 0) := (aC BKg.out 2).trans rfl; have hyg_2_1 := aA BKg.out 2; have hzg_3_1 : w1.cell? ⟨g, 3, none⟩ = some (.bool true) := (aC BKg.out 3).trans rfl; have hyg_3_1 := aA BKg.out 3) | ((with_reducible refine bK (t := 3) (p := 13) rfl ?_); refine bG (t := 3) (p := 13) (v := ?vo_w2) (w1 := (w1.setCell ⟨g, 2, none⟩ (.int .i64 ((-1))))) ?hg ?ho ?hn ?hr ?_; (case ho => rfl); (case hg => rfl); (case hn => rfl); (case hr => first | (go_simp; done) | (go_simp; rfl)); intro w2 hw_; have hkp : Kept w1 w2 (fun k_ => k_ = g) := (by rw [hw_]; exact Kept.setCell (Kept.refl w1 (fun k_ => k_ = g)) (.inl rfl) (.int .i64 ((-1)))); have hge_ : w.heap.size ≤ g := (by have o_ := HORD.out; (try unfold In at *); (try show _ ≠ _); omega); have hbn_ : Below w.heap.size w w2 := (by rw [hw_]; exact aG (HB.out) hge_); have hbk_ : w2.heap[g]? = some (.cells #[u0_, u1_, .int .i64 ((-1)), .bool true] 25 (0, 0)) := (by rw [hw_]; exact aT (cs := #[u0_, u1_, .int .i64 0, .bool true]) (cs' := #[u0_, u1_, .int .i64 ((-1)), .bool true]) (BKg.out) 2 _ rfl); have hsz_ : (g + 1) ≤ w2.heap.size := Nat.le_trans HT.out hkp.1; have n0_ := aD.mk (HKP.out.then_ hkp (fun k_ h_ => by have o_ := HORD.out; have t_ := HT.out; (try simp only [In2, Up, In, Ex, Exb] at h_ ⊢); omega)); have n1_ := aD.mk (hbn_); have n2_ := aD.mk (hbk_); have n3_ := aD.mk (hsz_); (try clear HKP); (try clear HB); (try clear BKg); (try clear HT); have HKP := n0_; have HB := n1_; have BKg := n2_; have HT := n3_; clear n0_ n1_ n2_ n3_; clear hw_ hkp hge_ hbn_ hbk_ hsz_; have hzg_0_2 : w2.cell? ⟨g, 0, none⟩ = some (u0_) := (aC BKg.out 0).trans rfl; have hyg_0_2 := aA BKg.out 0; have hzg_1_2 : w2.cell? ⟨g, 1, none⟩ = some (u1_) := (aC BKg.out 1).trans rfl; have hyg_1_2 := aA BKg.out 1; have hzg_2_2 : w2.cell? ⟨g, 2, none⟩ = some (.int .i64 ((-1))) := (aC BKg.out 2).trans rfl; have hyg_2_2 := aA BKg.out 2; have hzg_3_2 : w2.cell? ⟨g, 3, none⟩ = some (.bool true) := (aC BKg.out 3).trans rfl; have hyg_3_2 := aA BKg.out 3))
 have hres_ := @results_tmp Try.f72 2 (by kernel_rfl)
 refine bodyPost_ret (fn := Try.f72) (P := Try.prog) (hres_ _ _ _) rfl ?_
 exact ⟨rfl, BKg.out, HB.out, HKP.out⟩
set_option maxHeartbeats 8000000 in
set_option maxRecDepth 100000 in
theorem walk_l2Op1 (u0_ u1_ : Value) (a0_2 : Int) (a0_3 : Bool) (w wi : World) (g : Nat) (hB : Below w.heap.size w wi) (hbk : wi.heap[g]? = some (.cells #[u0_, u1_, .int .i64 a0_2, .bool a0_3] 25 (0, 0))) (hgg : w.heap.size ≤ g) (hp0 : 0 < a0_2) :
  Calls Try.prog 72 #[.pointer (some ⟨g, 0, none⟩)] wi fun e w' => e = .returned (.bool true) ∧ w'.heap[g]? = some (.cells #[u0_, u1_, .int .i64 (wrap64 (a0_2 - 1)), .bool a0_3] 25 (0, 0)) ∧ Below w.heap.size w w' ∧ Kept wi w' (fun k_ => k_ = g) := by
 have hu25 := Try.underlying25
 have HB := aD.mk hB
 have BKg := aD.mk hbk
 have HKP := aD.mk (Kept.refl wi (fun k_ => k_ = g))
 have HORD := aD.mk (And.intro hgg (Nat.le_succ g))
 have HT := aD.mk (show g + 1 ≤ wi.heap.size from bJ hbk)
 have d1_ : (a0_2 == 0) = false := beq_eq_false_iff_ne.mpr (by omega)
 have d2_ : decide (0 < a0_2) = true := decide_eq_true hp0
 clear hB hbk
 go_enter Try.func72, Try.ntmps72
 have hzg_0_0 : wi.cell? ⟨g, 0, none⟩ = some (u0_) := (aC BKg.out 0).trans rfl
 have hyg_0_0 := aA BKg.out 0
 have hzg_1_0 : wi.cell? ⟨g, 1, none⟩ = some (u1_) := (aC BKg.out 1).trans rfl
 have hyg_1_0 := aA BKg.out 1
 have hzg_2_0 : wi.cell? ⟨g, 2, none⟩ = some (.int .i64 a0_2) := (aC BKg.out 2).trans rfl
 have hyg_2_0 := aA BKg.out 2
 have hzg_3_0 : wi.cell? ⟨g, 3, none⟩ = some (.bool a0_3) := (aC BKg.out 3).trans rfl
 have hyg_3_0 := aA BKg.out 3
 go_wp2_with (first | ((with_reducible refine bK (t := 3) (p := 26) rfl ?_); refine bG (t := 3) (p := 26) (v := ?vo_w1) (w1 := (wi.setCell ⟨g, 2, none⟩ (.int .i64 ((wrap64 (a0_2 - 1)))))) ?hg ?ho ?hn ?hr ?_; (case ho => rfl); (case hg => rfl); (case hn => rfl); (case hr => first | (go_simp; done) | (go_simp; rfl)); intro w1 hw_; have hkp : Kept wi w1 (fun k_ => k_ = g) := (by rw [hw_]; exact Kept.setCell (Kept.refl wi (fun k_ => k_ = g)) (.inl rfl) (.int .i64 ((wrap64 (a0_2 - 1))))); have hge_ : w.heap.size ≤ g := (by have o_ := HORD.out; (try unfold In at *); (try show _ ≠ _); omega); have hbn_ : Below w.heap.size w w1 := (by rw [hw_]; exact aG (HB.out) hge_); have hbk_ : w1.heap[g]? = some (.cells #[u0_, u1_, .int .i64 ((wrap64 (a0_2 - 1))), .bool a0_3] 25 (0, 0)) := (by rw [hw_]; exact aT (cs := #[u0_, u1_, .int .i64 a0_2, .bool a0_3]) (cs' := #[u0_, u1_, .int .i64 ((wrap64 (a0_2 - 1))), .bool a0_3]) (BKg.out) 2 _ rfl); have hsz_ : (g + 1) ≤ w1.heap.size := Nat.le_trans HT.out hkp.1; have n0_ := aD.mk (HKP.out.then_ hkp (fun k_ h_ => by have o_ := HORD.out; have t_ := HT.out; (try simp only [In2, Up, In, Ex, Exb] at h_ ⊢); omega)); have n1_ := aD.mk (hbn_); have n2_ := aD.mk (hbk_); have n3_ := aD.mk (hsz_); (try clear HKP); (try clear HB); (try clear BKg); (try clear HT); have HKP := n0_; have HB := n1_; have BKg := n2_; have HT := n3_; clear n0_ n1_ n2_ n3_; clear hw_ hkp hge_ hbn_ hbk_ hsz_; have hzg_0_1 : w1.cell? ⟨g, 0, none⟩ = some (u0_) := (aC BKg.out 0).trans rfl; have hyg_0_1 := aA BKg.out 0; have hzg_1_1 : w1.cell? ⟨g, 1, none⟩ = some (u1_) := (aC BKg.out 1).trans rfl; have hyg_1_1 := aA BKg.out 1; have hzg_2_1 : w1.cell? ⟨g, 2, none⟩ = some (.int .i64 ((wrap64 (a0_2 - 1)))) := (aC BKg.out 2).trans rfl; have hyg_2_1 := aA BKg.out 2; have hzg_3_1 : w1.cell? ⟨g, 3, none⟩ = some (.bool a0_3) := (aC BKg.out 3).trans rfl; have hyg_3_1 := aA BKg.out 3))
 have hres_ := @results_tmp Try.f72 2 (by kernel_rfl)
 refine bodyPost_ret (fn := Try.f72) (P := Try.prog) (hres_ _ _ _) rfl ?_
 exact ⟨rfl, BKg.out, HB.out, HKP.out⟩
set_option maxHeartbeats 8000000 in
set_option maxRecDepth 100000 in
theorem walk_l2Op2 (u0_ u1_ : Value) (a0_2 : Int) (a0_3 : Bool) (w wi : World) (g : Nat) (hB : Below w.heap.size w wi) (hbk : wi.heap[g]? = some (.cells #[u0_, u1_, .int .i64 a0_2, .bool a0_3] 25 (0, 0))) (hgg : w.heap.size ≤ g) (hp0 : a0_2 < 0) :
  Calls Try.prog 72 #[.pointer (some ⟨g, 0, none⟩)] wi fun e w' => e = .returned (.bool true) ∧ w'.heap[g]? = some (.cells #[u0_, u1_, .int .i64 a0_2, .bool a0_3] 25 (0, 0)) ∧ Below w.heap.size w w' ∧ Kept wi w' (fun k_ => k_ = g) := by
 have hu25 := Try.underlying25
 have HB := aD.mk hB
 have BKg := aD.mk hbk
 have HKP := aD.mk (Kept.refl wi (fun k_ => k_ = g))
 have HORD := aD.mk (And.intro hgg (Nat.le_succ g))
 have HT := aD.mk (show g + 1 ≤ wi.heap.size from bJ hbk)
 have d1_ : (a0_2 == 0) = false := beq_eq_false_iff_ne.mpr (by omega)
 have d2_ : decide (0 < a0_2) = false := decide_eq_false (by omega)
 clear hB hbk
 go_enter Try.func72, Try.ntmps72
 have hzg_0_0 : wi.cell? ⟨g, 0, none⟩ = some (u0_) := (aC BKg.out 0).trans rfl
 have hyg_0_0 := aA BKg.out 0
 have hzg_1_0 : wi.cell? ⟨g, 1, none⟩ = some (u1_) := (aC BKg.out 1).trans rfl
 have hyg_1_0 := aA BKg.out 1
 have hzg_2_0 : wi.cell? ⟨g, 2, none⟩ = some (.int .i64 a0_2) := (aC BKg.out 2).trans rfl
 have hyg_2_0 := aA BKg.out 2
 have hzg_3_0 : wi.cell? ⟨g, 3, none⟩ = some (.bool a0_3) := (aC BKg.out 3).trans rfl
 have hyg_3_0 := aA BKg.out 3
 try go_wp2
 have hres_ := @results_tmp Try.f72 2 (by kernel_rfl)
 refine bodyPost_ret (fn := Try.f72) (P := Try.prog) (hres_ _ _ _) rfl ?_
 exact ⟨rfl, BKg.out, HB.out, HKP.out⟩
theorem spec_l2OpS.calls (u0_ u1_ : Value) (a0_2 : Int) (a0_3 : Bool) (r1 : Int) (r2 : Bool) (r3 : Bool) (w wi : World) (g : Nat) (hB : Below w.heap.size w wi) (hbk : wi.heap[g]? = some (.cells #[u0_, u1_, .int .i64 a0_2, .bool a0_3] 25 (0, 0))) (hgg : w.heap.size ≤ g) (h : burnF a0_2 a0_3 = (r1, r2, r3)) :
  Calls Try.prog 72 #[.pointer (some ⟨g, 0, none⟩)] wi fun e w' => e = .returned (.bool r3) ∧ w'.heap[g]? = some (.cells #[u0_, u1_, .int .i64 r1, .bool r2] 25 (0, 0)) ∧ Below w.heap.size w w' ∧ Kept wi w' (fun k_ => k_ = g) := by
 unfold burnF at h
 by_cases h0 : a0_2 = 0
 ·rw [if_pos h0] at h
  subst h0
  simp only [Prod.mk.injEq] at h
  obtain ⟨rfl, rfl, rfl⟩ := h
  exact walk_l2Op0 _ _ _ w wi g hB hbk hgg
 ·rw [if_neg h0] at h
  by_cases h1 : 0 < a0_2
  ·rw [if_pos h1] at h
   simp only [Prod.mk.injEq] at h
   obtain ⟨rfl, rfl, rfl⟩ := h
   exact walk_l2Op1 _ _ _ _ w wi g hB hbk hgg h1
  ·rw [if_neg h1] at h
   simp only [Prod.mk.injEq] at h
   obtain ⟨rfl, rfl, rfl⟩ := h
   exact walk_l2Op2 _ _ _ _ w wi g hB hbk hgg (by omega)
def WrPost (w wi w' : World) (a g gS : Nat) (u0 : Value) (s : List (List Int)) (c : List (S50)) (f : Int) (d : Bool) : Prop := ∃ (u1 : Value) (gn : Nat), w'.heap[g]? = some (.cells #[u0, u1, .int .i64 f, .bool d] 25 (0, 0)) ∧ (∀ k, u1.ownBlock = some k → k = gn) ∧ (gn < w'.heap.size ∧ g ≠ gn) ∧ Kd.N (Kd.slice 5 (Kd.int .u8)) 37 w' w.heap.size (Ex a gn g) u0 s ∧ Kd.N k50 50 w' w.heap.size (Ex a gS g) u1 c ∧ Below w.heap.size w w' ∧ Kept wi w' (fun k => a ≤ k)
def FlPost (w wi w' : World) (a g gS : Nat) (s : List (List Int)) (c : List (S50)) (f : Int) (d : Bool) : Prop := ∃ (u0 u1 : Value) (gn : Nat), w'.heap[g]? = some (.cells #[u0, u1, .int .i64 f, .bool d] 25 (0, 0)) ∧ (∀ k, u1.ownBlock = some k → k = gn) ∧ (gn < w'.heap.size ∧ g ≠ gn) ∧ (∀ k, u0.ownBlock = some k → k = gS) ∧ Kd.N (Kd.slice 5 (Kd.int .u8)) 37 w' w.heap.size (Ex a gn g) u0 s ∧ Kd.N k50 50 w' w.heap.size (Ex a gS g) u1 c ∧ Below w.heap.size w w' ∧ Kept wi w' (fun k => a ≤ k)
set_option maxHeartbeats 8000000 in
set_option maxRecDepth 100000 in
theorem walk_l2Write1 (A0_0 : Option Addr) (c0_0 : Nat) (l0_0 : List (List Int)) (A0_1 : Option Addr) (c0_1 : Nat) (l0_1 : List (S50)) (a0_2 : Int) (a1 : Int) (A2 : Option Addr) (c2 : Nat) (l2 : List (Int)) (w wi : World) (g : Nat) (hB : Below w.heap.size w wi) (hbk : wi.heap[g]? = some (.cells #[.slice A0_0 l0_0.length c0_0, .slice A0_1 l0_1.length c0_1, .int .i64 a0_2, .bool true] 25 (0, 0))) (a gS gC : Nat) (hwa : w.heap.size ≤ a ∧ 0 < a) (hag : a ≤ g) (hSt : gS < wi.heap.size ∧ g ≠ gS) (hCt : gC < wi.heap.size ∧ g ≠ gC) (hgC : ∀ k_, (Value.slice A0_1 l0_1.length c0_1).ownBlock = some k_ → k_ = gC) (hgS : ∀ k_, (Value.slice A0_0 l0_0.length c0_0).ownBlock = some k_ → k_ = gS) (hn0 : Kd.N (Kd.slice 5 (Kd.int .u8)) 37 wi w.heap.size (Ex a gC g) (.slice A0_0 l0_0.length c0_0) l0_0) (hn1 : Kd.N k50 50 wi w.heap.size (Ex a gS g) (.slice A0_1 l0_1.length c0_1) l0_1) (hf2 : Kd.F (Kd.int .u8) wi (Ex 0 g g) A2 l2.length l2) (hc2 : l2.length ≤ c2) :
  Calls Try.prog 57 #[.pointer (some ⟨g, 0, none⟩), .int .i64 a1, .slice A2 l2.length c2] wi fun e w' => e = .returned (.tuple #[]) ∧ WrPost w wi w' a g gS (.slice A0_0 l0_0.length c0_0) l0_0 l0_1 a0_2 true := by
 have hu25 := Try.underlying25
 have hu50 := Try.underlying50
 have HB := aD.mk hB
 have BKg := aD.mk hbk
 have HKP := aD.mk (Kept.refl wi (fun k_ => a ≤ k_))
 obtain ⟨top, et_⟩ : ∃ n_, n_ = wi.heap.size := ⟨_, rfl⟩
 have HORD := aD.mk (show ((w.heap.size ≤ a ∧ 0 < a) ∧ a ≤ g) ∧ g + 1 ≤ top ∧ (gS < top ∧ g ≠ gS) ∧ (gC < top ∧ g ≠ gC) from ⟨⟨hwa, hag⟩, by rw [et_]; exact bJ hbk, by rw [et_]; exact hSt, by rw [et_]; exact hCt⟩)
 have HT := aD.mk (Nat.le_of_eq et_)
 have HN0 := aD.mk (Kd.bR (ok' := Exb a gC g top) (Kd.N_bound hn0) (fun k_ hk_ => ⟨hk_.1, by rw [et_]; exact hk_.2⟩))
 have HN1 := aD.mk (Kd.bR (ok' := Exb a gS g top) (Kd.N_bound hn1) (fun k_ hk_ => ⟨hk_.1, by rw [et_]; exact hk_.2⟩))
 have HGC := aD.mk hgC
 have HGS := aD.mk hgS
 have HTE := aD.mk et_
 clear hn0 hn1 hgC hgS et_ hwa hag hSt hCt
 have HF2 := aD.mk (Kd.F_mono (ok' := Exb 0 g g top) (Kd.F_bound hf2) (fun k_ hk_ => ⟨hk_.1, Nat.lt_of_lt_of_le hk_.2 (Nat.le_of_eq HTE.out.symm)⟩))
 have HC2 := aD.mk hc2
 clear hf2 hc2
 clear hB hbk
 go_enter Try.func57, Try.ntmps57
 have hzg_0_0 : wi.cell? ⟨g, 0, none⟩ = some (.slice A0_0 l0_0.length c0_0) := (aC BKg.out 0).trans rfl
 have hyg_0_0 := aA BKg.out 0
 have hzg_1_0 : wi.cell? ⟨g, 1, none⟩ = some (.slice A0_1 l0_1.length c0_1) := (aC BKg.out 1).trans rfl
 have hyg_1_0 := aA BKg.out 1
 have hzg_2_0 : wi.cell? ⟨g, 2, none⟩ = some (.int .i64 a0_2) := (aC BKg.out 2).trans rfl
 have hyg_2_0 := aA BKg.out 2
 have hzg_3_0 : wi.cell? ⟨g, 3, none⟩ = some (.bool true) := (aC BKg.out 3).trans rfl
 have hyg_3_0 := aA BKg.out 3
 try go_wp2
 first | go_end0 | refine bodyPost_ret (fn := Try.f57) (results_none rfl _ _ _) rfl ?_
 exact ⟨rfl, by unfold WrPost; exact ⟨_, gC, BKg.out, HGC.out, (by have o_ := HORD.out; have t_ := HT.out; omega), Kd.bR HN0.out (fun k_ hk_ => by have o_ := HORD.out; have t_ := HT.out; (try simp only [In2, Up, In, Ex, Exb] at hk_ ⊢); omega), Kd.bR HN1.out (fun k_ hk_ => by have o_ := HORD.out; have t_ := HT.out; (try simp only [In2, Up, In, Ex, Exb] at hk_ ⊢); omega), HB.out, HKP.out⟩⟩
set_option maxHeartbeats 8000000 in
set_option maxRecDepth 100000 in
theorem walk_l2Write2 (A0_0 : Option Addr) (c0_0 : Nat) (l0_0 : List (List Int)) (A0_1 : Option Addr) (c0_1 : Nat) (l0_1 : List (S50)) (a0_2 : Int) (a1 : Int) (A2 : Option Addr) (c2 : Nat) (l2 : List (Int)) (w wi : World) (g : Nat) (hB : Below w.heap.size w wi) (hbk : wi.heap[g]? = some (.cells #[.slice A0_0 l0_0.length c0_0, .slice A0_1 l0_1.length c0_1, .int .i64 a0_2, .bool false] 25 (0, 0))) (a gS gC : Nat) (hwa : w.heap.size ≤ a ∧ 0 < a) (hag : a ≤ g) (hSt : gS < wi.heap.size ∧ g ≠ gS) (hCt : gC < wi.heap.size ∧ g ≠ gC) (hgC : ∀ k_, (Value.slice A0_1 l0_1.length c0_1).ownBlock = some k_ → k_ = gC) (hgS : ∀ k_, (Value.slice A0_0 l0_0.length c0_0).ownBlock = some k_ → k_ = gS) (hn0 : Kd.N (Kd.slice 5 (Kd.int .u8)) 37 wi w.heap.size (Ex a gC g) (.slice A0_0 l0_0.length c0_0) l0_0) (hn1 : Kd.N k50 50 wi w.heap.size (Ex a gS g) (.slice A0_1 l0_1.length c0_1) l0_1) (hf2 : Kd.F (Kd.int .u8) wi (Ex 0 g g) A2 l2.length l2) (hc2 : l2.length ≤ c2) (hwi : decide (0 ≤ a1 ∧ a1 ≤ wrap64 ((l0_0.length : Int) - 1)) = false) :
  Calls Try.prog 57 #[.pointer (some ⟨g, 0, none⟩), .int .i64 a1, .slice A2 l2.length c2] wi fun e w' => e = .returned (.tuple #[]) ∧ WrPost w wi w' a g gS (.slice A0_0 l0_0.length c0_0) l0_0 l0_1 a0_2 false := by
 have hu25 := Try.underlying25
 have hu50 := Try.underlying50
 have HB := aD.mk hB
 have BKg := aD.mk hbk
 have HKP := aD.mk (Kept.refl wi (fun k_ => a ≤ k_))
 obtain ⟨top, et_⟩ : ∃ n_, n_ = wi.heap.size := ⟨_, rfl⟩
 have HORD := aD.mk (show ((w.heap.size ≤ a ∧ 0 < a) ∧ a ≤ g) ∧ g + 1 ≤ top ∧ (gS < top ∧ g ≠ gS) ∧ (gC < top ∧ g ≠ gC) from ⟨⟨hwa, hag⟩, by rw [et_]; exact bJ hbk, by rw [et_]; exact hSt, by rw [et_]; exact hCt⟩)
 have HT := aD.mk (Nat.le_of_eq et_)
 have HN0 := aD.mk (Kd.bR (ok' := Exb a gC g top) (Kd.N_bound hn0) (fun k_ hk_ => ⟨hk_.1, by rw [et_]; exact hk_.2⟩))
 have HN1 := aD.mk (Kd.bR (ok' := Exb a gS g top) (Kd.N_bound hn1) (fun k_ hk_ => ⟨hk_.1, by rw [et_]; exact hk_.2⟩))
 have HGC := aD.mk hgC
 have HGS := aD.mk hgS
 have HTE := aD.mk et_
 clear hn0 hn1 hgC hgS et_ hwa hag hSt hCt
 have HF2 := aD.mk (Kd.F_mono (ok' := Exb 0 g g top) (Kd.F_bound hf2) (fun k_ hk_ => ⟨hk_.1, Nat.lt_of_lt_of_le hk_.2 (Nat.le_of_eq HTE.out.symm)⟩))
 have HC2 := aD.mk hc2
 clear hf2 hc2
 have JW := aD.mk (show spec_l1In.f a1 0 (wrap64 ((l0_0.length : Int) - 1)) = some false from by rw [spec_l1In_f, hwi])
 clear hB hbk
 go_enter Try.func57, Try.ntmps57
 have hzg_0_0 : wi.cell? ⟨g, 0, none⟩ = some (.slice A0_0 l0_0.length c0_0) := (aC BKg.out 0).trans rfl
 have hyg_0_0 := aA BKg.out 0
 have hzg_1_0 : wi.cell? ⟨g, 1, none⟩ = some (.slice A0_1 l0_1.length c0_1) := (aC BKg.out 1).trans rfl
 have hyg_1_0 := aA BKg.out 1
 have hzg_2_0 : wi.cell? ⟨g, 2, none⟩ = some (.int .i64 a0_2) := (aC BKg.out 2).trans rfl
 have hyg_2_0 := aA BKg.out 2
 have hzg_3_0 : wi.cell? ⟨g, 3, none⟩ = some (.bool false) := (aC BKg.out 3).trans rfl
 have hyg_3_0 := aA BKg.out 3
 go_wp2_with (first | ((with_reducible refine aY (f := 43) rfl ?_); refine gate_guard (by first | rfl | kernel_rfl) ?_; refine bL (some 18) rfl rfl Try.func43 (by kernel_rfl) rfl #[.int .i64 a1, .int .i64 0, .int .i64 ((wrap64 ((l0_0.length : Int) - 1)))] rfl (by (try simp only [List.map_toArray, List.map_cons, List.map_nil]); first | done | rfl | (simp only [List.length_drop, List.length_take]; rfl)) ?_; (with_reducible refine (spec_l1In.calls a1 0 ((wrap64 ((l0_0.length : Int) - 1))) false _ JW.out).mono ?_); rintro e_ w1 ⟨rfl, hd⟩; refine ⟨_, rfl, ?_⟩; have hb := hd.below; clear hd; have n0_ := aD.mk (Kd.aE HF2.out hb); have n1_ := aD.mk (Kd.N_below HN0.out hb); have n2_ := aD.mk (Kd.N_below HN1.out hb); have n3_ := aD.mk (HKP.out.then_ (Kept.of_below hb (fun _ => False)) (fun _ h_ => h_.elim)); have n4_ := aD.mk (aH BKg.out hb); have n5_ := aD.mk (aQ HB.out hb); have n6_ := aD.mk (Nat.le_trans HT.out hb.size); (try clear HF2); (try clear HN0); (try clear HN1); (try clear HKP); (try clear BKg); (try clear HB); (try clear HT); have HF2 := n0_; have HN0 := n1_; have HN1 := n2_; have HKP := n3_; have BKg := n4_; have HB := n5_; have HT := n6_; clear n0_ n1_ n2_ n3_ n4_ n5_ n6_; (try clear hb); have hzg_0_1 : w1.cell? ⟨g, 0, none⟩ = some (.slice A0_0 l0_0.length c0_0) := (aC BKg.out 0).trans rfl; have hyg_0_1 := aA BKg.out 0; have hzg_1_1 : w1.cell? ⟨g, 1, none⟩ = some (.slice A0_1 l0_1.length c0_1) := (aC BKg.out 1).trans rfl; have hyg_1_1 := aA BKg.out 1; have hzg_2_1 : w1.cell? ⟨g, 2, none⟩ = some (.int .i64 a0_2) := (aC BKg.out 2).trans rfl; have hyg_2_1 := aA BKg.out 2; have hzg_3_1 : w1.cell? ⟨g, 3, none⟩ = some (.bool false) := (aC BKg.out 3).trans rfl; have hyg_3_1 := aA BKg.out 3))
 first | go_end0 | refine bodyPost_ret (fn := Try.f57) (results_none rfl _ _ _) rfl ?_
 exact ⟨rfl, by unfold WrPost; exact ⟨_, gC, BKg.out, HGC.out, (by have o_ := HORD.out; have t_ := HT.out; omega), Kd.bR HN0.out (fun k_ hk_ => by have o_ := HORD.out; have t_ := HT.out; (try simp only [In2, Up, In, Ex, Exb] at hk_ ⊢); omega), Kd.bR HN1.out (fun k_ hk_ => by have o_ := HORD.out; have t_ := HT.out; (try simp only [In2, Up, In, Ex, Exb] at hk_ ⊢); omega), HB.out, HKP.out⟩⟩
set_option maxHeartbeats 8000000 in
set_option maxRecDepth 100000 in
theorem walk_l2Write3 (A0_0 : Option Addr) (c0_0 : Nat) (l0_0 : List (List Int)) (A0_1 : Option Addr) (c0_1 : Nat) (l0_1 : List (S50)) (a0_2 : Int) (a1 : Int) (A2 : Option Addr) (c2 : Nat) (l2 : List (Int)) (w wi : World) (g : Nat) (hB : Below w.heap.size w wi) (hbk : wi.heap[g]? = some (.cells #[.slice A0_0 l0_0.length c0_0, .slice A0_1 l0_1.length c0_1, .int .i64 a0_2, .bool false] 25 (0, 0))) (a gS gC : Nat) (hwa : w.heap.size ≤ a ∧ 0 < a) (hag : a ≤ g) (hSt : gS < wi.heap.size ∧ g ≠ gS) (hCt : gC < wi.heap.size ∧ g ≠ gC) (hgC : ∀ k_, (Value.slice A0_1 l0_1.length c0_1).ownBlock = some k_ → k_ = gC) (hgS : ∀ k_, (Value.slice A0_0 l0_0.length c0_0).ownBlock = some k_ → k_ = gS) (hn0 : Kd.N (Kd.slice 5 (Kd.int .u8)) 37 wi w.heap.size (Ex a gC g) (.slice A0_0 l0_0.length c0_0) l0_0) (hn1 : Kd.N k50 50 wi w.heap.size (Ex a gS g) (.slice A0_1 l0_1.length c0_1) l0_1) (hf2 : Kd.F (Kd.int .u8) wi (Ex 0 g g) A2 l2.length l2) (hc2 : l2.length ≤ c2) (hwi : decide (0 ≤ a1 ∧ a1 ≤ wrap64 ((l0_0.length : Int) - 1)) = true) (h80 : 80 < (l2.length : Int)) :
  Calls Try.prog 57 #[.pointer (some ⟨g, 0, none⟩), .int .i64 a1, .slice A2 l2.length c2] wi fun e w' => e = .returned (.tuple #[]) ∧ WrPost w wi w' a g gS (.slice A0_0 l0_0.length c0_0) l0_0 l0_1 a0_2 false := by
 have hu25 := Try.underlying25
 have hu50 := Try.underlying50
 have HB := aD.mk hB
 have BKg := aD.mk hbk
 have HKP := aD.mk (Kept.refl wi (fun k_ => a ≤ k_))
 obtain ⟨top, et_⟩ : ∃ n_, n_ = wi.heap.size := ⟨_, rfl⟩
 have HORD := aD.mk (show ((w.heap.size ≤ a ∧ 0 < a) ∧ a ≤ g) ∧ g + 1 ≤ top ∧ (gS < top ∧ g ≠ gS) ∧ (gC < top ∧ g ≠ gC) from ⟨⟨hwa, hag⟩, by rw [et_]; exact bJ hbk, by rw [et_]; exact hSt, by rw [et_]; exact hCt⟩)
 have HT := aD.mk (Nat.le_of_eq et_)
 have HN0 := aD.mk (Kd.bR (ok' := Exb a gC g top) (Kd.N_bound hn0) (fun k_ hk_ => ⟨hk_.1, by rw [et_]; exact hk_.2⟩))
 have HN1 := aD.mk (Kd.bR (ok' := Exb a gS g top) (Kd.N_bound hn1) (fun k_ hk_ => ⟨hk_.1, by rw [et_]; exact hk_.2⟩))
 have HGC := aD.mk hgC
 have HGS := aD.mk hgS
 have HTE := aD.mk et_
 clear hn0 hn1 hgC hgS et_ hwa hag hSt hCt
 have HF2 := aD.mk (Kd.F_mono (ok' := Exb 0 g g top) (Kd.F_bound hf2) (fun k_ hk_ => ⟨hk_.1, Nat.lt_of_lt_of_le hk_.2 (Nat.le_of_eq HTE.out.symm)⟩))
 have HC2 := aD.mk hc2
 clear hf2 hc2
 have JW := aD.mk (show spec_l1In.f a1 0 (wrap64 ((l0_0.length : Int) - 1)) = some true from by rw [spec_l1In_f, hwi])
 have d1_ : decide (80 < (l2.length : Int)) = true := decide_eq_true h80
 clear hB hbk
 go_enter Try.func57, Try.ntmps57
 have hzg_0_0 : wi.cell? ⟨g, 0, none⟩ = some (.slice A0_0 l0_0.length c0_0) := (aC BKg.out 0).trans rfl
 have hyg_0_0 := aA BKg.out 0
 have hzg_1_0 : wi.cell? ⟨g, 1, none⟩ = some (.slice A0_1 l0_1.length c0_1) := (aC BKg.out 1).trans rfl
 have hyg_1_0 := aA BKg.out 1
 have hzg_2_0 : wi.cell? ⟨g, 2, none⟩ = some (.int .i64 a0_2) := (aC BKg.out 2).trans rfl
 have hyg_2_0 := aA BKg.out 2
 have hzg_3_0 : wi.cell? ⟨g, 3, none⟩ = some (.bool false) := (aC BKg.out 3).trans rfl
 have hyg_3_0 := aA BKg.out 3
 go_wp2_with (first | ((with_reducible refine aY (f := 43) rfl ?_); refine gate_guard (by first | rfl | kernel_rfl) ?_; refine bL (some 18) rfl rfl Try.func43 (by kernel_rfl) rfl #[.int .i64 a1, .int .i64 0, .int .i64 ((wrap64 ((l0_0.length : Int) - 1)))] rfl (by (try simp only [List.map_toArray, List.map_cons, List.map_nil]); first | done | rfl | (simp only [List.length_drop, List.length_take]; rfl)) ?_; (with_reducible refine (spec_l1In.calls a1 0 ((wrap64 ((l0_0.length : Int) - 1))) true _ JW.out).mono ?_); rintro e_ w1 ⟨rfl, hd⟩; refine ⟨_, rfl, ?_⟩; have hb := hd.below; clear hd; have n0_ := aD.mk (Kd.aE HF2.out hb); have n1_ := aD.mk (Kd.N_below HN0.out hb); have n2_ := aD.mk (Kd.N_below HN1.out hb); have n3_ := aD.mk (HKP.out.then_ (Kept.of_below hb (fun _ => False)) (fun _ h_ => h_.elim)); have n4_ := aD.mk (aH BKg.out hb); have n5_ := aD.mk (aQ HB.out hb); have n6_ := aD.mk (Nat.le_trans HT.out hb.size); (try clear HF2); (try clear HN0); (try clear HN1); (try clear HKP); (try clear BKg); (try clear HB); (try clear HT); have HF2 := n0_; have HN0 := n1_; have HN1 := n2_; have HKP := n3_; have BKg := n4_; have HB := n5_; have HT := n6_; clear n0_ n1_ n2_ n3_ n4_ n5_ n6_; (try clear hb); have hzg_0_1 : w1.cell? ⟨g, 0, none⟩ = some (.slice A0_0 l0_0.length c0_0) := (aC BKg.out 0).trans rfl; have hyg_0_1 := aA BKg.out 0; have hzg_1_1 : w1.cell? ⟨g, 1, none⟩ = some (.slice A0_1 l0_1.length c0_1) := (aC BKg.out 1).trans rfl; have hyg_1_1 := aA BKg.out 1; have hzg_2_1 : w1.cell? ⟨g, 2, none⟩ = some (.int .i64 a0_2) := (aC BKg.out 2).trans rfl; have hyg_2_1 := aA BKg.out 2; have hzg_3_1 : w1.cell? ⟨g, 3, none⟩ = some (.bool false) := (aC BKg.out 3).trans rfl; have hyg_3_1 := aA BKg.out 3))
 first | go_end0 | refine bodyPost_ret (fn := Try.f57) (results_none rfl _ _ _) rfl ?_
 exact ⟨rfl, by unfold WrPost; exact ⟨_, gC, BKg.out, HGC.out, (by have o_ := HORD.out; have t_ := HT.out; omega), Kd.bR HN0.out (fun k_ hk_ => by have o_ := HORD.out; have t_ := HT.out; (try simp only [In2, Up, In, Ex, Exb] at hk_ ⊢); omega), Kd.bR HN1.out (fun k_ hk_ => by have o_ := HORD.out; have t_ := HT.out; (try simp only [In2, Up, In, Ex, Exb] at hk_ ⊢); omega), HB.out, HKP.out⟩⟩
set_option maxHeartbeats 8000000 in
set_option maxRecDepth 100000 in
theorem walk_l2Write4 (A0_0 : Option Addr) (c0_0 : Nat) (l0_0 : List (List Int)) (A0_1 : Option Addr) (c0_1 : Nat) (l0_1 : List (S50)) (a0_2 : Int) (a1 : Int) (A2 : Option Addr) (c2 : Nat) (l2 : List (Int)) (w wi : World) (g : Nat) (hB : Below w.heap.size w wi) (hbk : wi.heap[g]? = some (.cells #[.slice A0_0 l0_0.length c0_0, .slice A0_1 l0_1.length c0_1, .int .i64 a0_2, .bool false] 25 (0, 0))) (a gS gC : Nat) (hwa : w.heap.size ≤ a ∧ 0 < a) (hag : a ≤ g) (hSt : gS < wi.heap.size ∧ g ≠ gS) (hCt : gC < wi.heap.size ∧ g ≠ gC) (hgC : ∀ k_, (Value.slice A0_1 l0_1.length c0_1).ownBlock = some k_ → k_ = gC) (hgS : ∀ k_, (Value.slice A0_0 l0_0.length c0_0).ownBlock = some k_ → k_ = gS) (hn0 : Kd.N (Kd.slice 5 (Kd.int .u8)) 37 wi w.heap.size (Ex a gC g) (.slice A0_0 l0_0.length c0_0) l0_0) (hn1 : Kd.N k50 50 wi w.heap.size (Ex a gS g) (.slice A0_1 l0_1.length c0_1) l0_1) (hf2 : Kd.F (Kd.int .u8) wi (Ex 0 g g) A2 l2.length l2) (hc2 : l2.length ≤ c2) (hwi : decide (0 ≤ a1 ∧ a1 ≤ wrap64 ((l0_0.length : Int) - 1)) = true) (h80 : ¬ 80 < (l2.length : Int)) (h60 : 60 ≤ (l0_1.length : Int)) :
  Calls Try.prog 57 #[.pointer (some ⟨g, 0, none⟩), .int .i64 a1, .slice A2 l2.length c2] wi fun e w' => e = .returned (.tuple #[]) ∧ WrPost w wi w' a g gS (.slice A0_0 l0_0.length c0_0) l0_0 l0_1 a0_2 false := by
 have hu25 := Try.underlying25
 have hu50 := Try.underlying50
 have HB := aD.mk hB
 have BKg := aD.mk hbk
 have HKP := aD.mk (Kept.refl wi (fun k_ => a ≤ k_))
 obtain ⟨top, et_⟩ : ∃ n_, n_ = wi.heap.size := ⟨_, rfl⟩
 have HORD := aD.mk (show ((w.heap.size ≤ a ∧ 0 < a) ∧ a ≤ g) ∧ g + 1 ≤ top ∧ (gS < top ∧ g ≠ gS) ∧ (gC < top ∧ g ≠ gC) from ⟨⟨hwa, hag⟩, by rw [et_]; exact bJ hbk, by rw [et_]; exact hSt, by rw [et_]; exact hCt⟩)
 have HT := aD.mk (Nat.le_of_eq et_)
 have HN0 := aD.mk (Kd.bR (ok' := Exb a gC g top) (Kd.N_bound hn0) (fun k_ hk_ => ⟨hk_.1, by rw [et_]; exact hk_.2⟩))
 have HN1 := aD.mk (Kd.bR (ok' := Exb a gS g top) (Kd.N_bound hn1) (fun k_ hk_ => ⟨hk_.1, by rw [et_]; exact hk_.2⟩))
 have HGC := aD.mk hgC
 have HGS := aD.mk hgS
 have HTE := aD.mk et_
 clear hn0 hn1 hgC hgS et_ hwa hag hSt hCt
 have HF2 := aD.mk (Kd.F_mono (ok' := Exb 0 g g top) (Kd.F_bound hf2) (fun k_ hk_ => ⟨hk_.1, Nat.lt_of_lt_of_le hk_.2 (Nat.le_of_eq HTE.out.symm)⟩))
 have HC2 := aD.mk hc2
 clear hf2 hc2
 have JW := aD.mk (show spec_l1In.f a1 0 (wrap64 ((l0_0.length : Int) - 1)) = some true from by rw [spec_l1In_f, hwi])
 have d1_ : decide (80 < (l2.length : Int)) = false := decide_eq_false h80
 have d2_ : decide (60 ≤ (l0_1.length : Int)) = true := decide_eq_true h60
 clear hB hbk
 go_enter Try.func57, Try.ntmps57
 have hzg_0_0 : wi.cell? ⟨g, 0, none⟩ = some (.slice A0_0 l0_0.length c0_0) := (aC BKg.out 0).trans rfl
 have hyg_0_0 := aA BKg.out 0
 have hzg_1_0 : wi.cell? ⟨g, 1, none⟩ = some (.slice A0_1 l0_1.length c0_1) := (aC BKg.out 1).trans rfl
 have hyg_1_0 := aA BKg.out 1
 have hzg_2_0 : wi.cell? ⟨g, 2, none⟩ = some (.int .i64 a0_2) := (aC BKg.out 2).trans rfl
 have hyg_2_0 := aA BKg.out 2
 have hzg_3_0 : wi.cell? ⟨g, 3, none⟩ = some (.bool false) := (aC BKg.out 3).trans rfl
 have hyg_3_0 := aA BKg.out 3
 go_wp2_with (first | ((with_reducible refine aY (f := 43) rfl ?_); refine gate_guard (by first | rfl | kernel_rfl) ?_; refine bL (some 18) rfl rfl Try.func43 (by kernel_rfl) rfl #[.int .i64 a1, .int .i64 0, .int .i64 ((wrap64 ((l0_0.length : Int) - 1)))] rfl (by (try simp only [List.map_toArray, List.map_cons, List.map_nil]); first | done | rfl | (simp only [List.length_drop, List.length_take]; rfl)) ?_; (with_reducible refine (spec_l1In.calls a1 0 ((wrap64 ((l0_0.length : Int) - 1))) true _ JW.out).mono ?_); rintro e_ w1 ⟨rfl, hd⟩; refine ⟨_, rfl, ?_⟩; have hb := hd.below; clear hd; have n0_ := aD.mk (Kd.aE HF2.out hb); have n1_ := aD.mk (Kd.N_below HN0.out hb); have n2_ := aD.mk (Kd.N_below HN1.out hb); have n3_ := aD.mk (HKP.out.then_ (Kept.of_below hb (fun _ => False)) (fun _ h_ => h_.elim)); have n4_ := aD.mk (aH BKg.out hb); have n5_ := aD.mk (aQ HB.out hb); have n6_ := aD.mk (Nat.le_trans HT.out hb.size); (try clear HF2); (try clear HN0); (try clear HN1); (try clear HKP); (try clear BKg); (try clear HB); (try clear HT); have HF2 := n0_; have HN0 := n1_; have HN1 := n2_; have HKP := n3_; have BKg := n4_; have HB := n5_; have HT := n6_; clear n0_ n1_ n2_ n3_ n4_ n5_ n6_; (try clear hb); have hzg_0_1 : w1.cell? ⟨g, 0, none⟩ = some (.slice A0_0 l0_0.length c0_0) := (aC BKg.out 0).trans rfl; have hyg_0_1 := aA BKg.out 0; have hzg_1_1 : w1.cell? ⟨g, 1, none⟩ = some (.slice A0_1 l0_1.length c0_1) := (aC BKg.out 1).trans rfl; have hyg_1_1 := aA BKg.out 1; have hzg_2_1 : w1.cell? ⟨g, 2, none⟩ = some (.int .i64 a0_2) := (aC BKg.out 2).trans rfl; have hyg_2_1 := aA BKg.out 2; have hzg_3_1 : w1.cell? ⟨g, 3, none⟩ = some (.bool false) := (aC BKg.out 3).trans rfl; have hyg_3_1 := aA BKg.out 3))
 first | go_end0 | refine bodyPost_ret (fn := Try.f57) (results_none rfl _ _ _) rfl ?_
 exact ⟨rfl, by unfold WrPost; exact ⟨_, gC, BKg.out, HGC.out, (by have o_ := HORD.out; have t_ := HT.out; omega), Kd.bR HN0.out (fun k_ hk_ => by have o_ := HORD.out; have t_ := HT.out; (try simp only [In2, Up, In, Ex, Exb] at hk_ ⊢); omega), Kd.bR HN1.out (fun k_ hk_ => by have o_ := HORD.out; have t_ := HT.out; (try simp only [In2, Up, In, Ex, Exb] at hk_ ⊢); omega), HB.out, HKP.out⟩⟩
set_option maxHeartbeats 8000000 in
set_option maxRecDepth 100000 in
theorem walk_l2Write5 (A0_0 : Option Addr) (c0_0 : Nat) (l0_0 : List (List Int)) (A0_1 : Option Addr) (c0_1 : Nat) (l0_1 : List (S50)) (a0_2 : Int) (a1 : Int) (A2 : Option Addr) (c2 : Nat) (l2 : List (Int)) (w wi : World) (g : Nat) (hB : Below w.heap.size w wi) (hbk : wi.heap[g]? = some (.cells #[.slice A0_0 l0_0.length c0_0, .slice A0_1 l0_1.length c0_1, .int .i64 a0_2, .bool false] 25 (0, 0))) (a gS gC : Nat) (hwa : w.heap.size ≤ a ∧ 0 < a) (hag : a ≤ g) (hSt : gS < wi.heap.size ∧ g ≠ gS) (hCt : gC < wi.heap.size ∧ g ≠ gC) (hgC : ∀ k_, (Value.slice A0_1 l0_1.length c0_1).ownBlock = some k_ → k_ = gC) (hgS : ∀ k_, (Value.slice A0_0 l0_0.length c0_0).ownBlock = some k_ → k_ = gS) (hn0 : Kd.N (Kd.slice 5 (Kd.int .u8)) 37 wi w.heap.size (Ex a gC g) (.slice A0_0 l0_0.length c0_0) l0_0) (hn1 : Kd.N k50 50 wi w.heap.size (Ex a gS g) (.slice A0_1 l0_1.length c0_1) l0_1) (hf2 : Kd.F (Kd.int .u8) wi (Ex 0 g g) A2 l2.length l2) (hc2 : l2.length ≤ c2) (hwi : decide (0 ≤ a1 ∧ a1 ≤ wrap64 ((l0_0.length : Int) - 1)) = true) (h80 : ¬ 80 < (l2.length : Int)) (h60 : ¬ 60 ≤ (l0_1.length : Int)) (f1 : Int) (b1 : Bool) (hbu : burnF a0_2 false = (f1, b1, false)) :
  Calls Try.prog 57 #[.pointer (some ⟨g, 0, none⟩), .int .i64 a1, .slice A2 l2.length c2] wi fun e w' => e = .returned (.tuple #[]) ∧ WrPost w wi w' a g gS (.slice A0_0 l0_0.length c0_0) l0_0 l0_1 f1 b1 := by
 have hu25 := Try.underlying25
 have hu50 := Try.underlying50
 have HB := aD.mk hB
 have BKg := aD.mk hbk
 have HKP := aD.mk (Kept.refl wi (fun k_ => a ≤ k_))
 obtain ⟨top, et_⟩ : ∃ n_, n_ = wi.heap.size := ⟨_, rfl⟩
 have HORD := aD.mk (show ((w.heap.size ≤ a ∧ 0 < a) ∧ a ≤ g) ∧ g + 1 ≤ top ∧ (gS < top ∧ g ≠ gS) ∧ (gC < top ∧ g ≠ gC) from ⟨⟨hwa, hag⟩, by rw [et_]; exact bJ hbk, by rw [et_]; exact hSt, by rw [et_]; exact hCt⟩)
 have HT := aD.mk (Nat.le_of_eq et_)
 have HN0 := aD.mk (Kd.bR (ok' := Exb a gC g top) (Kd.N_bound hn0) (fun k_ hk_ => ⟨hk_.1, by rw [et_]; exact hk_.2⟩))
 have HN1 := aD.mk (Kd.bR (ok' := Exb a gS g top) (Kd.N_bound hn1) (fun k_ hk_ => ⟨hk_.1, by rw [et_]; exact hk_.2⟩))
 have HGC := aD.mk hgC
 have HGS := aD.mk hgS
 have HTE := aD.mk et_
 clear hn0 hn1 hgC hgS et_ hwa hag hSt hCt
 have HF2 := aD.mk (Kd.F_mono (ok' := Exb 0 g g top) (Kd.F_bound hf2) (fun k_ hk_ => ⟨hk_.1, Nat.lt_of_lt_of_le hk_.2 (Nat.le_of_eq HTE.out.symm)⟩))
 have HC2 := aD.mk hc2
 clear hf2 hc2
 have JW := aD.mk (show spec_l1In.f a1 0 (wrap64 ((l0_0.length : Int) - 1)) = some true from by rw [spec_l1In_f, hwi])
 have d1_ : decide (80 < (l2.length : Int)) = false := decide_eq_false h80
 have d2_ : decide (60 ≤ (l0_1.length : Int)) = false := decide_eq_false h60
 have JO := aD.mk hbu
 clear hB hbk
 go_enter Try.func57, Try.ntmps57
 have hzg_0_0 : wi.cell? ⟨g, 0, none⟩ = some (.slice A0_0 l0_0.length c0_0) := (aC BKg.out 0).trans rfl
 have hyg_0_0 := aA BKg.out 0
 have hzg_1_0 : wi.cell? ⟨g, 1, none⟩ = some (.slice A0_1 l0_1.length c0_1) := (aC BKg.out 1).trans rfl
 have hyg_1_0 := aA BKg.out 1
 have hzg_2_0 : wi.cell? ⟨g, 2, none⟩ = some (.int .i64 a0_2) := (aC BKg.out 2).trans rfl
 have hyg_2_0 := aA BKg.out 2
 have hzg_3_0 : wi.cell? ⟨g, 3, none⟩ = some (.bool false) := (aC BKg.out 3).trans rfl
 have hyg_3_0 := aA BKg.out 3
 go_wp2_with (first | ((with_reducible refine aY (f := 43) rfl ?_); refine gate_guard (by first | rfl | kernel_rfl) ?_; refine bL (some 18) rfl rfl Try.func43 (by kernel_rfl) rfl #[.int .i64 a1, .int .i64 0, .int .i64 ((wrap64 ((l0_0.length : Int) - 1)))] rfl (by (try simp only [List.map_toArray, List.map_cons, List.map_nil]); first | done | rfl | (simp only [List.length_drop, List.length_take]; rfl)) ?_; (with_reducible refine (spec_l1In.calls a1 0 ((wrap64 ((l0_0.length : Int) - 1))) true _ JW.out).mono ?_); rintro e_ w1 ⟨rfl, hd⟩; refine ⟨_, rfl, ?_⟩; have hb := hd.below; clear hd; have n0_ := aD.mk (Kd.aE HF2.out hb); have n1_ := aD.mk (Kd.N_below HN0.out hb); have n2_ := aD.mk (Kd.N_below HN1.out hb); have n3_ := aD.mk (HKP.out.then_ (Kept.of_below hb (fun _ => False)) (fun _ h_ => h_.elim)); have n4_ := aD.mk (aH BKg.out hb); have n5_ := aD.mk (aQ HB.out hb); have n6_ := aD.mk (Nat.le_trans HT.out hb.size); (try clear HF2); (try clear HN0); (try clear HN1); (try clear HKP); (try clear BKg); (try clear HB); (try clear HT); have HF2 := n0_; have HN0 := n1_; have HN1 := n2_; have HKP := n3_; have BKg := n4_; have HB := n5_; have HT := n6_; clear n0_ n1_ n2_ n3_ n4_ n5_ n6_; (try clear hb); have hzg_0_1 : w1.cell? ⟨g, 0, none⟩ = some (.slice A0_0 l0_0.length c0_0) := (aC BKg.out 0).trans rfl; have hyg_0_1 := aA BKg.out 0; have hzg_1_1 : w1.cell? ⟨g, 1, none⟩ = some (.slice A0_1 l0_1.length c0_1) := (aC BKg.out 1).trans rfl; have hyg_1_1 := aA BKg.out 1; have hzg_2_1 : w1.cell? ⟨g, 2, none⟩ = some (.int .i64 a0_2) := (aC BKg.out 2).trans rfl; have hyg_2_1 := aA BKg.out 2; have hzg_3_1 : w1.cell? ⟨g, 3, none⟩ = some (.bool false) := (aC BKg.out 3).trans rfl; have hyg_3_1 := aA BKg.out 3) | ((with_reducible refine aY (f := 72) rfl ?_); refine gate_guard (by first | rfl | kernel_rfl) ?_; refine bL (some 36) rfl rfl Try.func72 (by kernel_rfl) rfl #[.pointer (some ⟨g, 0, none⟩)] rfl (by (try simp only [List.map_toArray, List.map_cons, List.map_nil]); first | done | rfl | (simp only [List.length_drop, List.length_take]; rfl)) ?_; (with_reducible refine (spec_l2OpS.calls (.slice A0_0 l0_0.length c0_0) (.slice A0_1 l0_1.length c0_1) _ _ f1 b1 false w _ g ?s1 ?s2 ?s3 JO.out).mono ?_); (case s1 => exact HB.out); (case s2 => exact BKg.out); (case s3 => exact (by have o_ := HORD.out; omega)); rintro e_ w2 ⟨rfl, hbk_, hbn_, hkp⟩; refine ⟨_, rfl, ?_⟩; have n0_ := aD.mk (Kd.aU HF2.out hkp (fun k_ h1_ h2_ => by have o_ := HORD.out; have t_ := HT.out; (try simp only [In2, Up, In, Ex, Exb] at h1_ h2_); omega)); have n1_ := aD.mk (Kd.N_kept HN0.out hkp (fun k_ h1_ h2_ => by have o_ := HORD.out; have t_ := HT.out; (try simp only [In2, Up, In, Ex, Exb] at h1_ h2_); omega)); have n2_ := aD.mk (Kd.N_kept HN1.out hkp (fun k_ h1_ h2_ => by have o_ := HORD.out; have t_ := HT.out; (try simp only [In2, Up, In, Ex, Exb] at h1_ h2_); omega)); have n3_ := aD.mk (HKP.out.then_ hkp (fun k_ h_ => by have o_ := HORD.out; have t_ := HT.out; (try simp only [In2, Up, In, Ex, Exb] at h_ ⊢); omega)); have n4_ := aD.mk (hbn_); have n5_ := aD.mk (hbk_); have n6_ := aD.mk (Nat.le_trans HT.out hkp.1); (try clear HF2); (try clear HN0); (try clear HN1); (try clear HKP); (try clear HB); (try clear BKg); (try clear HT); have HF2 := n0_; have HN0 := n1_; have HN1 := n2_; have HKP := n3_; have HB := n4_; have BKg := n5_; have HT := n6_; clear n0_ n1_ n2_ n3_ n4_ n5_ n6_; clear hbk_ hbn_ hkp; have hzg_0_2 : w2.cell? ⟨g, 0, none⟩ = some (.slice A0_0 l0_0.length c0_0) := (aC BKg.out 0).trans rfl; have hyg_0_2 := aA BKg.out 0; have hzg_1_2 : w2.cell? ⟨g, 1, none⟩ = some (.slice A0_1 l0_1.length c0_1) := (aC BKg.out 1).trans rfl; have hyg_1_2 := aA BKg.out 1; have hzg_2_2 : w2.cell? ⟨g, 2, none⟩ = some (.int .i64 f1) := (aC BKg.out 2).trans rfl; have hyg_2_2 := aA BKg.out 2; have hzg_3_2 : w2.cell? ⟨g, 3, none⟩ = some (.bool b1) := (aC BKg.out 3).trans rfl; have hyg_3_2 := aA BKg.out 3))
 first | go_end0 | refine bodyPost_ret (fn := Try.f57) (results_none rfl _ _ _) rfl ?_
 exact ⟨rfl, by unfold WrPost; exact ⟨_, gC, BKg.out, HGC.out, (by have o_ := HORD.out; have t_ := HT.out; omega), Kd.bR HN0.out (fun k_ hk_ => by have o_ := HORD.out; have t_ := HT.out; (try simp only [In2, Up, In, Ex, Exb] at hk_ ⊢); omega), Kd.bR HN1.out (fun k_ hk_ => by have o_ := HORD.out; have t_ := HT.out; (try simp only [In2, Up, In, Ex, Exb] at hk_ ⊢); omega), HB.out, HKP.out⟩⟩
set_option maxHeartbeats 8000000 in
set_option maxRecDepth 100000 in
theorem walk_l2Write6 (A0_0 : Option Addr) (c0_0 : Nat) (l0_0 : List (List Int)) (A0_1 : Option Addr) (c0_1 : Nat) (l0_1 : List (S50)) (a0_2 : Int) (a1 : Int) (A2 : Option Addr) (c2 : Nat) (l2 : List (Int)) (w wi : World) (g : Nat) (hB : Below w.heap.size w wi) (hbk : wi.heap[g]? = some (.cells #[.slice A0_0 l0_0.length c0_0, .slice A0_1 l0_1.length c0_1, .int .i64 a0_2, .bool false] 25 (0, 0))) (a gS gC : Nat) (hwa : w.heap.size ≤ a ∧ 0 < a) (hag : a ≤ g) (hSt : gS < wi.heap.size ∧ g ≠ gS) (hCt : gC < wi.heap.size ∧ g ≠ gC) (hgC : ∀ k_, (Value.slice A0_1 l0_1.length c0_1).ownBlock = some k_ → k_ = gC) (hgS : ∀ k_, (Value.slice A0_0 l0_0.length c0_0).ownBlock = some k_ → k_ = gS) (hn0 : Kd.N (Kd.slice 5 (Kd.int .u8)) 37 wi w.heap.size (Ex a gC g) (.slice A0_0 l0_0.length c0_0) l0_0) (hn1 : Kd.N k50 50 wi w.heap.size (Ex a gS g) (.slice A0_1 l0_1.length c0_1) l0_1) (hf2 : Kd.F (Kd.int .u8) wi (Ex 0 g g) A2 l2.length l2) (hc2 : l2.length ≤ c2) (hwi : decide (0 ≤ a1 ∧ a1 ≤ wrap64 ((l0_0.length : Int) - 1)) = true) (h80 : ¬ 80 < (l2.length : Int)) (h60 : ¬ 60 ≤ (l0_1.length : Int)) (f1 : Int) (b1 : Bool) (hbu : burnF a0_2 false = (f1, b1, true)) :
  Calls Try.prog 57 #[.pointer (some ⟨g, 0, none⟩), .int .i64 a1, .slice A2 l2.length c2] wi fun e w' => e = .returned (.tuple #[]) ∧ WrPost w wi w' a g gS (.slice A0_0 l0_0.length c0_0) l0_0 (l0_1 ++ [(⟨a1, l2⟩ : S50)]) f1 b1 := by
 have hu25 := Try.underlying25
 have hu50 := Try.underlying50
 have HB := aD.mk hB
 have BKg := aD.mk hbk
 have HKP := aD.mk (Kept.refl wi (fun k_ => a ≤ k_))
 obtain ⟨top, et_⟩ : ∃ n_, n_ = wi.heap.size := ⟨_, rfl⟩
 have HORD := aD.mk (show ((w.heap.size ≤ a ∧ 0 < a) ∧ a ≤ g) ∧ g + 1 ≤ top ∧ (gS < top ∧ g ≠ gS) ∧ (gC < top ∧ g ≠ gC) from ⟨⟨hwa, hag⟩, by rw [et_]; exact bJ hbk, by rw [et_]; exact hSt, by rw [et_]; exact hCt⟩)
 have HT := aD.mk (Nat.le_of_eq et_)
 have HN0 := aD.mk (Kd.bR (ok' := Exb a gC g top) (Kd.N_bound hn0) (fun k_ hk_ => ⟨hk_.1, by rw [et_]; exact hk_.2⟩))
 have HN1 := aD.mk (Kd.bR (ok' := Exb a gS g top) (Kd.N_bound hn1) (fun k_ hk_ => ⟨hk_.1, by rw [et_]; exact hk_.2⟩))
 have HGC := aD.mk hgC
 have HGS := aD.mk hgS
 have HTE := aD.mk et_
 clear hn0 hn1 hgC hgS et_ hwa hag hSt hCt
 have HF2 := aD.mk (Kd.F_mono (ok' := Exb 0 g g top) (Kd.F_bound hf2) (fun k_ hk_ => ⟨hk_.1, Nat.lt_of_lt_of_le hk_.2 (Nat.le_of_eq HTE.out.symm)⟩))
 have HC2 := aD.mk hc2
 clear hf2 hc2
 have JW := aD.mk (show spec_l1In.f a1 0 (wrap64 ((l0_0.length : Int) - 1)) = some true from by rw [spec_l1In_f, hwi])
 have d1_ : decide (80 < (l2.length : Int)) = false := decide_eq_false h80
 have d2_ : decide (60 ≤ (l0_1.length : Int)) = false := decide_eq_false h60
 have JO := aD.mk hbu
 clear hB hbk
 go_enter Try.func57, Try.ntmps57
 have hzg_0_0 : wi.cell? ⟨g, 0, none⟩ = some (.slice A0_0 l0_0.length c0_0) := (aC BKg.out 0).trans rfl
 have hyg_0_0 := aA BKg.out 0
 have hzg_1_0 : wi.cell? ⟨g, 1, none⟩ = some (.slice A0_1 l0_1.length c0_1) := (aC BKg.out 1).trans rfl
 have hyg_1_0 := aA BKg.out 1
 have hzg_2_0 : wi.cell? ⟨g, 2, none⟩ = some (.int .i64 a0_2) := (aC BKg.out 2).trans rfl
 have hyg_2_0 := aA BKg.out 2
 have hzg_3_0 : wi.cell? ⟨g, 3, none⟩ = some (.bool false) := (aC BKg.out 3).trans rfl
 have hyg_3_0 := aA BKg.out 3
 go_wp2_with (first | ((with_reducible refine aY (f := 43) rfl ?_); refine gate_guard (by first | rfl | kernel_rfl) ?_; refine bL (some 18) rfl rfl Try.func43 (by kernel_rfl) rfl #[.int .i64 a1, .int .i64 0, .int .i64 ((wrap64 ((l0_0.length : Int) - 1)))] rfl (by (try simp only [List.map_toArray, List.map_cons, List.map_nil]); first | done | rfl | (simp only [List.length_drop, List.length_take]; rfl)) ?_; (with_reducible refine (spec_l1In.calls a1 0 ((wrap64 ((l0_0.length : Int) - 1))) true _ JW.out).mono ?_); rintro e_ w1 ⟨rfl, hd⟩; refine ⟨_, rfl, ?_⟩; have hb := hd.below; clear hd; have n0_ := aD.mk (Kd.aE HF2.out hb); have n1_ := aD.mk (Kd.N_below HN0.out hb); have n2_ := aD.mk (Kd.N_below HN1.out hb); have n3_ := aD.mk (HKP.out.then_ (Kept.of_below hb (fun _ => False)) (fun _ h_ => h_.elim)); have n4_ := aD.mk (aH BKg.out hb); have n5_ := aD.mk (aQ HB.out hb); have n6_ := aD.mk (Nat.le_trans HT.out hb.size); (try clear HF2); (try clear HN0); (try clear HN1); (try clear HKP); (try clear BKg); (try clear HB); (try clear HT); have HF2 := n0_; have HN0 := n1_; have HN1 := n2_; have HKP := n3_; have BKg := n4_; have HB := n5_; have HT := n6_; clear n0_ n1_ n2_ n3_ n4_ n5_ n6_; (try clear hb); have hzg_0_1 : w1.cell? ⟨g, 0, none⟩ = some (.slice A0_0 l0_0.length c0_0) := (aC BKg.out 0).trans rfl; have hyg_0_1 := aA BKg.out 0; have hzg_1_1 : w1.cell? ⟨g, 1, none⟩ = some (.slice A0_1 l0_1.length c0_1) := (aC BKg.out 1).trans rfl; have hyg_1_1 := aA BKg.out 1; have hzg_2_1 : w1.cell? ⟨g, 2, none⟩ = some (.int .i64 a0_2) := (aC BKg.out 2).trans rfl; have hyg_2_1 := aA BKg.out 2; have hzg_3_1 : w1.cell? ⟨g, 3, none⟩ = some (.bool false) := (aC BKg.out 3).trans rfl; have hyg_3_1 := aA BKg.out 3) | ((with_reducible refine aY (f := 72) rfl ?_); refine gate_guard (by first | rfl | kernel_rfl) ?_; refine bL (some 36) rfl rfl Try.func72 (by kernel_rfl) rfl #[.pointer (some ⟨g, 0, none⟩)] rfl (by (try simp only [List.map_toArray, List.map_cons, List.map_nil]); first | done | rfl | (simp only [List.length_drop, List.length_take]; rfl)) ?_; (with_reducible refine (spec_l2OpS.calls (.slice A0_0 l0_0.length c0_0) (.slice A0_1 l0_1.length c0_1) _ _ f1 b1 true w _ g ?s1 ?s2 ?s3 JO.out).mono ?_); (case s1 => exact HB.out); (case s2 => exact BKg.out); (case s3 => exact (by have o_ := HORD.out; omega)); rintro e_ w2 ⟨rfl, hbk_, hbn_, hkp⟩; refine ⟨_, rfl, ?_⟩; have n0_ := aD.mk (Kd.aU HF2.out hkp (fun k_ h1_ h2_ => by have o_ := HORD.out; have t_ := HT.out; (try simp only [In2, Up, In, Ex, Exb] at h1_ h2_); omega)); have n1_ := aD.mk (Kd.N_kept HN0.out hkp (fun k_ h1_ h2_ => by have o_ := HORD.out; have t_ := HT.out; (try simp only [In2, Up, In, Ex, Exb] at h1_ h2_); omega)); have n2_ := aD.mk (Kd.N_kept HN1.out hkp (fun k_ h1_ h2_ => by have o_ := HORD.out; have t_ := HT.out; (try simp only [In2, Up, In, Ex, Exb] at h1_ h2_); omega)); have n3_ := aD.mk (HKP.out.then_ hkp (fun k_ h_ => by have o_ := HORD.out; have t_ := HT.out; (try simp only [In2, Up, In, Ex, Exb] at h_ ⊢); omega)); have n4_ := aD.mk (hbn_); have n5_ := aD.mk (hbk_); have n6_ := aD.mk (Nat.le_trans HT.out hkp.1); (try clear HF2); (try clear HN0); (try clear HN1); (try clear HKP); (try clear HB); (try clear BKg); (try clear HT); have HF2 := n0_; have HN0 := n1_; have HN1 := n2_; have HKP := n3_; have HB := n4_; have BKg := n5_; have HT := n6_; clear n0_ n1_ n2_ n3_ n4_ n5_ n6_; clear hbk_ hbn_ hkp; have hzg_0_2 : w2.cell? ⟨g, 0, none⟩ = some (.slice A0_0 l0_0.length c0_0) := (aC BKg.out 0).trans rfl; have hyg_0_2 := aA BKg.out 0; have hzg_1_2 : w2.cell? ⟨g, 1, none⟩ = some (.slice A0_1 l0_1.length c0_1) := (aC BKg.out 1).trans rfl; have hyg_1_2 := aA BKg.out 1; have hzg_2_2 : w2.cell? ⟨g, 2, none⟩ = some (.int .i64 f1) := (aC BKg.out 2).trans rfl; have hyg_2_2 := aA BKg.out 2; have hzg_3_2 : w2.cell? ⟨g, 3, none⟩ = some (.bool b1) := (aC BKg.out 3).trans rfl; have hyg_3_2 := aA BKg.out 3))
 have n_ := aD.mk (Kd.F_drew HF2.out)
 clear HF2
 have HF2 := n_
 clear n_
 have n_ := aD.mk (Kd.N_drew HN0.out)
 clear HN0
 have HN0 := n_
 clear n_
 have n_ := aD.mk (Kd.N_drew HN1.out)
 clear HN1
 have HN1 := n_
 clear n_
 have n_ := aD.mk (bA BKg.out)
 clear BKg
 have BKg := n_
 clear n_
 have n_ := aD.mk (aN HB.out)
 clear HB
 have HB := n_
 clear n_
 have n_ := aD.mk (show _ ≤ w2.drew.heap.size from HT.out)
 clear HT
 have HT := n_
 clear n_
 have n_ := aD.mk (show Kept wi w2.drew (fun k_ => a ≤ k_) from HKP.out)
 clear HKP
 have HKP := n_
 clear n_
 refine start_ (n := 15) (S := fun w' => w'.cell? ⟨g, 0, none⟩ = some (.slice A0_0 l0_0.length c0_0) ∧ w'.cell? ⟨g, 1, none⟩ = some (.slice A0_1 l0_1.length c0_1) ∧ w'.cell? ⟨g, 2, none⟩ = some (.int .i64 f1) ∧ w'.cell? ⟨g, 3, none⟩ = some (.bool b1)) (ds := [14]) #[false, false, false, false, false, false, false, false, false, false, false, false, false, false, false] (by kernel_rfl) rfl rfl ⟨(aC BKg.out 0).trans rfl, (aC BKg.out 1).trans rfl, (aC BKg.out 2).trans rfl, (aC BKg.out 3).trans rfl⟩ (fun hHeld => ?_)
 generalize w2.drew = w3 at HF2 HN0 HN1 BKg HB HT HKP hHeld ⊢
 refine bF (i := 0) (N := some 39) (v := ?_) (a' := ?_) #[true, false, false, false, false, false, false, false, false, false, false, false, false, false, false] rfl rfl (by kernel_rfl) (fun _ _ _ h => h) (Or.inl ⟨by rfl, ?_⟩) ?_ ?_
 rotate_left
 ·intro w'
  go_simp
  with_reducible rfl
 rotate_left
 ·simp only [Act.put, lA, lB, lC, aW, aX]
  rfl
 refine bF (i := 1) (N := some 40) (v := ?_) (a' := ?_) #[true, true, false, false, false, false, false, false, false, false, false, false, false, false, false] rfl rfl (by kernel_rfl) (fun _ _ _ h => h) (Or.inl ⟨by rfl, ?_⟩) ?_ ?_
 rotate_left
 ·intro w'
  go_simp
  with_reducible rfl
 rotate_left
 ·simp only [Act.put, lA, lB, lC, aW, aX]
  rfl
 refine bF (i := 2) (N := some 41) (v := ?_) (a' := ?_) #[true, true, true, false, false, false, false, false, false, false, false, false, false, false, false] rfl rfl (by kernel_rfl) (fun _ _ _ h => h) (Or.inl ⟨by rfl, ?_⟩) ?_ ?_
 rotate_left
 ·intro w'
  go_simp
  with_reducible rfl
 rotate_left
 ·simp only [Act.put, lA, lB, lC, aW, aX]
  rfl
 refine bF (i := 3) (N := some 42) (v := ?_) (a' := ?_) #[true, true, true, true, false, false, false, false, false, false, false, false, false, false, false] rfl rfl (by kernel_rfl) (fun _ _ _ h => h) (Or.inl ⟨by rfl, ?_⟩) ?_ ?_
 rotate_left
 ·intro w'
  go_simp
  with_reducible rfl
 rotate_left
 ·simp only [Act.put, lA, lB, lC, aW, aX]
  rfl
 refine take_ (i := 4) (N := some 43) (v := ?_) (a' := ?_) #[true, true, true, true, true, false, false, false, false, false, false, false, false, false, false] rfl rfl (by kernel_rfl) (fun _ _ _ h => h) (Or.inl ⟨by rfl, ?_⟩) hHeld ?_ ?_
 rotate_left
 ·rintro w' ⟨s0, s1, s2, s3⟩
  go_simp
  with_reducible rfl
 rotate_left
 ·simp only [Act.put, lA, lB, lC, aW, aX]
  rfl
 refine bF (i := 5) (N := some 44) (v := ?_) (a' := ?_) #[true, true, true, true, true, true, false, false, false, false, false, false, false, false, false] rfl rfl (by kernel_rfl) (fun _ _ _ h => h) (Or.inl ⟨by rfl, ?_⟩) ?_ ?_
 rotate_left
 ·intro w'
  go_simp
  with_reducible rfl
 rotate_left
 ·simp only [Act.put, lA, lB, lC, aW, aX]
  rfl
 refine bF (i := 7) (N := some 46) (v := ?_) (a' := ?_) #[true, true, true, true, true, true, false, true, false, false, false, false, false, false, false] rfl rfl (by kernel_rfl) (fun _ _ _ h => h) (Or.inl ⟨by rfl, ?_⟩) ?_ ?_
 rotate_left
 ·intro w'
  go_simp
  with_reducible rfl
 rotate_left
 ·simp only [Act.put, lA, lB, lC, aW, aX]
  rfl
 refine one_ (i := 6) (N := some 45) #[true, true, true, true, true, true, true, true, false, false, false, false, false, false, false] rfl rfl (by kernel_rfl) (by decide) (fun K hK => ?_)
 refine Kd.R_lit_step (Kd.int .u8) _ 5 ?hg (N := 45) ?hd (xs := ([] : List (Int))) (inner := []) (ok := fun _ => True) (okp := fun _ => True) ?hr ?hp (fun _ hk => hk) trivial (Below.refl _ _) (Nat.le_refl _) (by simp) ?_
 (case hd => rfl)
 (case hg => rfl)
 (case hr => first | (go_simp; done) | (go_simp; rfl))
 (case hp => exact (Reps.none _ _))
 intro v4 w4 ho_ hb hg_ hat_
 clear hg_ hat_
 obtain ⟨ys4, ey_⟩ : ∃ y_ : List (Int), y_ = [] := ⟨_, rfl⟩
 rw [← ey_] at ho_
 have HY4 := aD.mk ey_
 clear ey_
 obtain ⟨lo4, hi4, el_, eh_, ol_, oh_⟩ := Mem.times HT.out hb
 rw [← el_] at ho_
 obtain ⟨A4, c4, ev_, hc_, hf_, hs_⟩ := Mem.new_R ho_ eh_
 subst ev_
 have n0_ := aD.mk (Kd.aE HF2.out hb)
 have n1_ := aD.mk (Kd.N_below HN0.out hb)
 have n2_ := aD.mk (Kd.N_below HN1.out hb)
 have n3_ := aD.mk (HKP.out.then_ (Kept.of_below hb (fun _ => False)) (fun _ h_ => h_.elim))
 have n4_ := aD.mk (aH BKg.out hb)
 have n5_ := aD.mk (aQ HB.out hb)
 have n6_ := aD.mk (And.intro HORD.out (And.intro ol_ oh_))
 have n7_ := aD.mk (Nat.le_of_eq eh_)
 have n8_ := aD.mk (hf_)
 have n9_ := aD.mk (hc_)
 have n10_ := aD.mk (hs_)
 (try clear HF2)
 (try clear HN0)
 (try clear HN1)
 (try clear HKP)
 (try clear BKg)
 (try clear HB)
 (try clear HORD)
 (try clear HT)
 (try clear HF4)
 (try clear HC4)
 (try clear HS4)
 have HF2 := n0_
 have HN0 := n1_
 have HN1 := n2_
 have HKP := n3_
 have BKg := n4_
 have HB := n5_
 have HORD := n6_
 have HT := n7_
 have HF4 := n8_
 have HC4 := n9_
 have HS4 := n10_
 clear n0_ n1_ n2_ n3_ n4_ n5_ n6_ n7_ n8_ n9_ n10_
 clear hb ho_ hc_ hf_ hs_ ol_ oh_ el_ eh_
 refine hK.out _ _ ⟨(aC BKg.out 0).trans rfl, (aC BKg.out 1).trans rfl, (aC BKg.out 2).trans rfl, (aC BKg.out 3).trans rfl⟩ (fun hHeld => ?_)
 clear hK K
 refine norm_ (a' := ?_) ?_ ?_
 rotate_left
 ·show Act.put _ (some 45) _ = _
  simp only [Act.put, lA, lB, lC, aW, aX]
  rfl
 refine one_ (i := 8) (N := some 47) #[true, true, true, true, true, true, true, true, true, false, false, false, false, false, false] rfl rfl (by kernel_rfl) (by decide) (fun K hK => ?_)
 refine Kd.R_append_rows_step (Kd.int .u8) (w0 := w) w.heap.size (by rfl) (.tmp 45) (.tmp 46) 37 5 (.int .u8 0) 1 rfl Try.underlying37 info5 rfl (by decide) (by omega) (.slice A4 ys4.length c4) ys4 l2 _ _ _ (fun k_ => lo4 ≤ k_) (fun _ => False) rfl rfl ?aO ?aR (fun _ _ h => h) (fun _ h => h.elim) ?aF ?aB ?aS ?aL ?_
 (case aR => exact (Kd.bH HF2.out))
 (case aB => exact HB.out)
 (case aS => exact bM HB.out)
 (case aF => exact (fun k_ hk_ => by have o_ := HORD.out; have t_ := HT.out; omega))
 (case aO => exact Kd.R_mono (Kd.R_lower HS4.out (by have o_ := HORD.out; omega)) (fun k_ hk_ => hk_.1))
 (case aL => (have h1_ := congrArg List.length HY4.out; simp only [List.length_nil] at h1_; have h2_ := (show l2.length ≤ 80 by omega); omega))
 intro v5 w5 ho_ hbn_ hg_ hat_
 obtain ⟨ys5, ey_⟩ : ∃ y_, y_ = ys4 ++ l2 := ⟨_, rfl⟩
 rw [← ey_] at ho_
 have HY5 := aD.mk (show ys5 = l2 by rw [ey_, HY4.out, List.nil_append])
 clear ey_
 have hkp := kept_grown (S := (In lo4 hi4)) hg_ (fun k_ he_ => (HS4.out).1 k_ he_)
 obtain ⟨A5, c5, ev_⟩ := Kd.R_slice ho_
 subst ev_
 obtain ⟨hi5, e2_⟩ : ∃ n_, n_ = w5.heap.size := ⟨_, rfl⟩
 have ol_ : hi4 ≤ hi5 := (by rw [e2_]; exact Nat.le_trans HT.out hkp.1)
 have hs_ := Kd.R_mono (ok' := In lo4 hi5) (Kd.R_bound ho_) (fun k_ hk_ => ⟨hk_.1, by rw [e2_]; exact hk_.2.2.1⟩)
 have n0_ := aD.mk (Kd.aU HF2.out hkp (fun k_ h1_ h2_ => by have o_ := HORD.out; have t_ := HT.out; (try simp only [In2, Up, In, Ex, Exb] at h1_ h2_); omega))
 have n1_ := aD.mk (Kd.N_kept HN0.out hkp (fun k_ h1_ h2_ => by have o_ := HORD.out; have t_ := HT.out; (try simp only [In2, Up, In, Ex, Exb] at h1_ h2_); omega))
 have n2_ := aD.mk (Kd.N_kept HN1.out hkp (fun k_ h1_ h2_ => by have o_ := HORD.out; have t_ := HT.out; (try simp only [In2, Up, In, Ex, Exb] at h1_ h2_); omega))
 have n3_ := aD.mk (HKP.out.then_ hkp (fun k_ h_ => by have o_ := HORD.out; have t_ := HT.out; (try simp only [In2, Up, In, Ex, Exb] at h_ ⊢); omega))
 have n4_ := aD.mk (aV BKg.out hkp (fun h2_ => by have o_ := HORD.out; have t_ := HT.out; (try simp only [In2, Up, In, Ex, Exb] at h2_); omega))
 have n5_ := aD.mk (hbn_)
 have n6_ := aD.mk (And.intro HORD.out ol_)
 have n7_ := aD.mk (Nat.le_of_eq e2_)
 have n8_ := aD.mk (hs_)
 have n9_ := aD.mk (Kd.R_F hs_)
 have n10_ := aD.mk ((Kd.R_reads' hs_).2.1)
 (try clear HF2)
 (try clear HN0)
 (try clear HN1)
 (try clear HKP)
 (try clear BKg)
 (try clear HB)
 (try clear HORD)
 (try clear HT)
 (try clear HS5)
 (try clear HF5)
 (try clear HC5)
 have HF2 := n0_
 have HN0 := n1_
 have HN1 := n2_
 have HKP := n3_
 have BKg := n4_
 have HB := n5_
 have HORD := n6_
 have HT := n7_
 have HS5 := n8_
 have HF5 := n9_
 have HC5 := n10_
 clear n0_ n1_ n2_ n3_ n4_ n5_ n6_ n7_ n8_ n9_ n10_
 clear hs_ ho_ hbn_ hg_ hat_ hkp ol_ e2_
 refine hK.out _ _ ⟨(aC BKg.out 0).trans rfl, (aC BKg.out 1).trans rfl, (aC BKg.out 2).trans rfl, (aC BKg.out 3).trans rfl⟩ (fun hHeld => ?_)
 clear hK K
 refine norm_ (a' := ?_) ?_ ?_
 rotate_left
 ·show Act.put _ (some 47) _ = _
  simp only [Act.put, lA, lB, lC, aW, aX]
  rfl
 refine bF (i := 9) (N := some 48) (v := ?_) (a' := ?_) #[true, true, true, true, true, true, true, true, true, true, false, false, false, false, false] rfl rfl (by kernel_rfl) (fun _ _ _ h => h) (Or.inl ⟨by rfl, ?_⟩) ?_ ?_
 rotate_left
 ·intro w'
  go_simp
  with_reducible rfl
 rotate_left
 ·simp only [Act.put, lA, lB, lC, aW, aX]
  rfl
 refine one_ (i := 10) (N := some 49) #[true, true, true, true, true, true, true, true, true, true, true, false, false, false, false] rfl rfl (by kernel_rfl) (by decide) (fun K hK => ?_)
 refine value_ (w1 := ?_) (v := ?_) (by rfl) rfl ?_ ?_
 rotate_left 2
 ·go_simp
  constructor
  ·rfl
  ·rfl
 refine hK.out _ _ ⟨(aC (aZ BKg.out _) 0).trans rfl, (aC (aZ BKg.out _) 1).trans rfl, (aC (aZ BKg.out _) 2).trans rfl, (aC (aZ BKg.out _) 3).trans rfl⟩ (fun hHeld => ?_)
 clear hK K
 refine norm_ (a' := ?_) ?_ ?_
 rotate_left
 ·show Act.put _ (some 49) _ = _
  simp only [Act.put, lA, lB, lC, aW, aX]
  rfl
 refine one_ (i := 11) (N := some 50) #[true, true, true, true, true, true, true, true, true, true, true, true, false, false, false] rfl rfl (by kernel_rfl) (by decide) (fun K hK => ?_)
 refine Kd.N_append_step k50 (w0 := w) w.heap.size (by rfl) (.tmp 43) (.tmp 49) 23 50 (.agg #[.int .i64 0, .slice none 0 0]) 32 rfl Try.underlying23 info50 rfl (by decide) (by omega) (.slice A0_1 l0_1.length c0_1) l0_1 ((⟨a1, ys5⟩ : S50)) [.int .i64 a1, .slice A5 ys5.length c5] (Ex a gS g) (fun k_ => (Ex a gS g) k_ ∧ some k_ ≠ (.slice A0_1 l0_1.length c0_1 : Value).ownBlock) rfl rfl ?aP (fun _ hk => hk) ?aF ?aO ?aB ?aS ?aL ?_
 (case aP => exact k50_mkF _ _ _ HC5.out (Kd.F_mono HF5.out (fun k_ hk_ => ⟨(by have o_ := HORD.out; have t_ := HT.out; (try simp only [In2, Up, In, Ex, Exb] at hk_ ⊢); omega), (fun he_ => by have hz_ := HGC.out k_ he_.symm; have o_ := HORD.out; have t_ := HT.out; (try simp only [In2, Up, In, Ex, Exb] at hk_); omega)⟩)))
 (case aF => exact (fun k_ hk_ => by have o_ := HORD.out; have t_ := HT.out; (try simp only [In2, Up, In, Ex, Exb] at hk_ ⊢); omega))
 (case aO => exact Kd.bR HN1.out (fun k_ hk_ => by (try simp only [In2, Up, In, Ex, Exb] at hk_ ⊢); omega))
 (case aB => exact HB.out)
 (case aS => exact bM HB.out)
 (case aL => omega)
 intro v6 w6 ho_ hbn_ hg_ hat_
 obtain ⟨ys6, ey_⟩ : ∃ y_, y_ = l0_1 ++ [(⟨a1, ys5⟩ : S50)] := ⟨_, rfl⟩
 rw [← ey_] at ho_
 have HY6 := aD.mk ey_
 clear ey_
 have hkp := kept_grown (S := fun k_ => k_ = gC ∧ a ≤ k_) hg_ (fun k_ he_ => ⟨HGC.out k_ he_, ((HN1.out).1 k_ he_).1.1⟩)
 obtain ⟨gn6, hgn_, hgo_⟩ : ∃ x_, (∀ k_, v6.ownBlock = some k_ → k_ = x_) ∧ (x_ = gC ∨ (hi5 ≤ x_ ∧ x_ < w6.heap.size)) := by
  rcases hat_ with hat_ | ⟨b_, hb_, hle_⟩
  ·exact ⟨gC, fun k_ hk_ => HGC.out k_ (hat_ ▸ hk_), .inl rfl⟩
  ·exact ⟨b_, fun k_ hk_ => by rw [hb_] at hk_; injection hk_ with hk_; exact hk_.symm, .inr ⟨Nat.le_trans HT.out hle_, Kd.N_lt ho_ b_ hb_⟩⟩
 obtain ⟨A6, c6, ev_⟩ := Kd.N_slice ho_
 subst ev_
 obtain ⟨hi6, e2_⟩ : ∃ n_, n_ = w6.heap.size := ⟨_, rfl⟩
 have ol_ : hi5 ≤ hi6 := (by rw [e2_]; exact Nat.le_trans HT.out hkp.1)
 rw [← e2_] at hgo_
 have hs_ := Kd.bR (ok' := Exb a gS g hi6) (Kd.N_bound ho_) (fun k_ hk_ => ⟨hk_.1, by rw [e2_]; exact hk_.2⟩)
 have n0_ := aD.mk (Kd.N_kept HN0.out hkp (fun k_ h1_ h2_ => by have o_ := HORD.out; have t_ := HT.out; (try simp only [In2, Up, In, Ex, Exb] at h1_ h2_); omega))
 have n1_ := aD.mk (HKP.out.then_ hkp (fun k_ h_ => by have o_ := HORD.out; have t_ := HT.out; (try simp only [In2, Up, In, Ex, Exb] at h_ ⊢); omega))
 have n2_ := aD.mk (aV BKg.out hkp (fun h2_ => by have o_ := HORD.out; have t_ := HT.out; (try simp only [In2, Up, In, Ex, Exb] at h2_); omega))
 have n3_ := aD.mk (hbn_)
 have n4_ := aD.mk (And.intro HORD.out (And.intro ol_ hgo_))
 have n5_ := aD.mk (Nat.le_of_eq e2_)
 have n6_ := aD.mk (hs_)
 have n7_ := aD.mk ((Kd.N_reads' ho_).2.1)
 have n8_ := aD.mk (hgn_)
 (try clear HN0)
 (try clear HKP)
 (try clear BKg)
 (try clear HB)
 (try clear HORD)
 (try clear HT)
 (try clear HS6)
 (try clear HC6)
 (try clear HG6)
 have HN0 := n0_
 have HKP := n1_
 have BKg := n2_
 have HB := n3_
 have HORD := n4_
 have HT := n5_
 have HS6 := n6_
 have HC6 := n7_
 have HG6 := n8_
 clear n0_ n1_ n2_ n3_ n4_ n5_ n6_ n7_ n8_
 clear hs_ ho_ hbn_ hg_ hat_ hkp ol_ e2_ hgn_ hgo_
 refine hK.out _ _ ⟨(aC BKg.out 0).trans rfl, (aC BKg.out 1).trans rfl, (aC BKg.out 2).trans rfl, (aC BKg.out 3).trans rfl⟩ (fun hHeld => ?_)
 clear hK K
 refine norm_ (a' := ?_) ?_ ?_
 rotate_left
 ·show Act.put _ (some 50) _ = _
  simp only [Act.put, lA, lB, lC, aW, aX]
  rfl
 refine bF (i := 12) (N := some 51) (v := ?_) (a' := ?_) #[true, true, true, true, true, true, true, true, true, true, true, true, true, false, false] rfl rfl (by kernel_rfl) (fun _ _ _ h => h) (Or.inl ⟨by rfl, ?_⟩) ?_ ?_
 rotate_left
 ·intro w'
  go_simp
  with_reducible rfl
 rotate_left
 ·simp only [Act.put, lA, lB, lC, aW, aX]
  rfl
 refine bF (i := 13) (N := some 52) (v := ?_) (a' := ?_) #[true, true, true, true, true, true, true, true, true, true, true, true, true, true, false] rfl rfl (by kernel_rfl) (fun _ _ _ h => h) (Or.inl ⟨by rfl, ?_⟩) ?_ ?_
 rotate_left
 ·intro w'
  go_simp
  with_reducible rfl
 rotate_left
 ·simp only [Act.put, lA, lB, lC, aW, aX]
  rfl
 refine last_ (i := 14) (N := none) #[true, true, true, true, true, true, true, true, true, true, true, true, true, true, true] rfl rfl (by kernel_rfl) (by decide) (fun K hK => ?_)
 have hzg_0_7 : w6.cell? ⟨g, 0, none⟩ = some (.slice A0_0 l0_0.length c0_0) := (aC BKg.out 0).trans rfl
 have hyg_0_7 := aA BKg.out 0
 have hzg_1_7 : w6.cell? ⟨g, 1, none⟩ = some (.slice A0_1 l0_1.length c0_1) := (aC BKg.out 1).trans rfl
 have hyg_1_7 := aA BKg.out 1
 have hzg_2_7 : w6.cell? ⟨g, 2, none⟩ = some (.int .i64 f1) := (aC BKg.out 2).trans rfl
 have hyg_2_7 := aA BKg.out 2
 have hzg_3_7 : w6.cell? ⟨g, 3, none⟩ = some (.bool b1) := (aC BKg.out 3).trans rfl
 have hyg_3_7 := aA BKg.out 3
 have hge_ : w.heap.size ≤ g := (by have o_ := HORD.out; omega)
 refine skip_ (w1 := ?_) (by rfl) rfl ?_ ?_
 rotate_left
 ·go_simp
  rfl
 refine hK.out _ _ ?_
 clear hK K
 refine done_ (by kernel_rfl) ?_
 obtain ⟨w7, hw_⟩ : ∃ z_, z_ = (w6.setCell ⟨g, 1, none⟩ (.slice A6 ys6.length c6)) := ⟨_, rfl⟩
 (try rw [← hw_])
 have hkp : Kept w6 w7 (fun k_ => k_ = g) := (by rw [hw_]; exact Kept.setCell (Kept.refl w6 (fun k_ => k_ = g)) (.inl rfl) (.slice A6 ys6.length c6))
 have hbn_ : Below w.heap.size w w7 := (by rw [hw_]; exact aG (HB.out) hge_)
 have hbk_ : w7.heap[g]? = some (.cells #[.slice A0_0 l0_0.length c0_0, .slice A6 ys6.length c6, .int .i64 f1, .bool b1] 25 (0, 0)) := (by rw [hw_]; exact aT (cs := #[.slice A0_0 l0_0.length c0_0, .slice A0_1 l0_1.length c0_1, .int .i64 f1, .bool b1]) (cs' := #[.slice A0_0 l0_0.length c0_0, .slice A6 ys6.length c6, .int .i64 f1, .bool b1]) (BKg.out) 1 _ rfl)
 have hsz_ : hi6 ≤ w7.heap.size := Nat.le_trans HT.out hkp.1
 have n0_ := aD.mk (Kd.N_kept HN0.out hkp (fun k_ h1_ h2_ => by have o_ := HORD.out; have t_ := HT.out; (try simp only [In2, Up, In, Ex, Exb] at h1_ h2_); omega))
 have n1_ := aD.mk (Kd.N_kept HS6.out hkp (fun k_ h1_ h2_ => by have o_ := HORD.out; have t_ := HT.out; (try simp only [In2, Up, In, Ex, Exb] at h1_ h2_); omega))
 have n2_ := aD.mk (HKP.out.then_ hkp (fun k_ h_ => by have o_ := HORD.out; have t_ := HT.out; (try simp only [In2, Up, In, Ex, Exb] at h_ ⊢); omega))
 have n3_ := aD.mk (hbn_)
 have n4_ := aD.mk (hbk_)
 have n5_ := aD.mk (hsz_)
 (try clear HN0)
 (try clear HS6)
 (try clear HKP)
 (try clear HB)
 (try clear BKg)
 (try clear HT)
 have HN0 := n0_
 have HS6 := n1_
 have HKP := n2_
 have HB := n3_
 have BKg := n4_
 have HT := n5_
 clear n0_ n1_ n2_ n3_ n4_ n5_
 clear hw_ hkp hge_ hbn_ hbk_ hsz_
 have hzg_0_7 : w7.cell? ⟨g, 0, none⟩ = some (.slice A0_0 l0_0.length c0_0) := (aC BKg.out 0).trans rfl
 have hyg_0_7 := aA BKg.out 0
 have hzg_1_7 : w7.cell? ⟨g, 1, none⟩ = some (.slice A6 ys6.length c6) := (aC BKg.out 1).trans rfl
 have hyg_1_7 := aA BKg.out 1
 have hzg_2_7 : w7.cell? ⟨g, 2, none⟩ = some (.int .i64 f1) := (aC BKg.out 2).trans rfl
 have hyg_2_7 := aA BKg.out 2
 have hzg_3_7 : w7.cell? ⟨g, 3, none⟩ = some (.bool b1) := (aC BKg.out 3).trans rfl
 have hyg_3_7 := aA BKg.out 3
 try go_wp2
 first | go_end0 | refine bodyPost_ret (fn := Try.f57) (results_none rfl _ _ _) rfl ?_
 exact ⟨rfl, by unfold WrPost; exact ⟨_, gn6, BKg.out, HG6.out, (by have o_ := HORD.out; have t_ := HT.out; omega), Kd.bR HN0.out (fun k_ hk_ => by have o_ := HORD.out; have t_ := HT.out; (try simp only [In2, Up, In, Ex, Exb] at hk_ ⊢); omega), (by rw [show l0_1 ++ [(⟨a1, l2⟩ : S50)] = ys6 from by rw [HY6.out, HY5.out]]; exact Kd.bR HS6.out (fun k_ hk_ => by have o_ := HORD.out; have t_ := HT.out; (try simp only [In2, Up, In, Ex, Exb] at hk_ ⊢); omega)), HB.out, HKP.out⟩⟩
theorem spec_l2WriteS.calls (A0_0 : Option Addr) (c0_0 : Nat) (l0_0 : List (List Int)) (A0_1 : Option Addr) (c0_1 : Nat) (l0_1 : List (S50)) (a0_2 : Int) (a0_3 : Bool) (a1 : Int) (A2 : Option Addr) (c2 : Nat) (l2 : List Int) (w wi : World) (g : Nat) (hB : Below w.heap.size w wi) (hbk : wi.heap[g]? = some (.cells #[.slice A0_0 l0_0.length c0_0, .slice A0_1 l0_1.length c0_1, .int .i64 a0_2, .bool a0_3] 25 (0, 0))) (a gS gC : Nat) (hwa : w.heap.size ≤ a ∧ 0 < a) (hag : a ≤ g) (hSt : gS < wi.heap.size ∧ g ≠ gS) (hCt : gC < wi.heap.size ∧ g ≠ gC) (hgC : ∀ k_, (Value.slice A0_1 l0_1.length c0_1).ownBlock = some k_ → k_ = gC) (hgS : ∀ k_, (Value.slice A0_0 l0_0.length c0_0).ownBlock = some k_ → k_ = gS) (hn0 : Kd.N (Kd.slice 5 (Kd.int .u8)) 37 wi w.heap.size (Ex a gC g) (.slice A0_0 l0_0.length c0_0) l0_0) (hn1 : Kd.N k50 50 wi w.heap.size (Ex a gS g) (.slice A0_1 l0_1.length c0_1) l0_1) (hf2 : Kd.F (Kd.int .u8) wi (Ex 0 g g) A2 l2.length l2) (hc2 : l2.length ≤ c2) :
  Calls Try.prog 57 #[.pointer (some ⟨g, 0, none⟩), .int .i64 a1, .slice A2 l2.length c2] wi fun e w' => e = .returned (.tuple #[]) ∧ WrPost w wi w' a g gS (.slice A0_0 l0_0.length c0_0) l0_0 (wrote l0_0 l0_1 a0_2 a0_3 a1 l2).1 (wrote l0_0 l0_1 a0_2 a0_3 a1 l2).2.1 (wrote l0_0 l0_1 a0_2 a0_3 a1 l2).2.2 := by
 unfold wrote
 by_cases hp : putsB l0_0 l0_1 a0_3 a1 l2 = true
 ·rw [if_pos hp]
  unfold putsB at hp
  simp only [Bool.and_eq_true, Bool.not_eq_true', decide_eq_false_iff_not] at hp
  obtain ⟨hd, hwi, h80, h60⟩ := hp
  subst hd
  obtain ⟨⟨f1, b1, o1⟩, hbu⟩ : ∃ z, burnF a0_2 false = z := ⟨_, rfl⟩
  rw [hbu]
  cases o1 with
  | true => exact walk_l2Write6 _ _ _ _ _ _ _ _ _ _ _ w wi g hB hbk a gS gC hwa hag hSt hCt hgC hgS hn0 hn1 hf2 hc2 hwi h80 h60 _ _ hbu
  | false => exact walk_l2Write5 _ _ _ _ _ _ _ _ _ _ _ w wi g hB hbk a gS gC hwa hag hSt hCt hgC hgS hn0 hn1 hf2 hc2 hwi h80 h60 _ _ hbu
 ·rw [if_neg hp]
  cases a0_3 with
  | true => exact walk_l2Write1 _ _ _ _ _ _ _ _ _ _ _ w wi g hB hbk a gS gC hwa hag hSt hCt hgC hgS hn0 hn1 hf2 hc2
  | false =>
   by_cases hwi : decide (0 ≤ a1 ∧ a1 ≤ wrap64 ((l0_0.length : Int) - 1)) = true
   ·by_cases h80 : 80 < (l2.length : Int)
    ·exact walk_l2Write3 _ _ _ _ _ _ _ _ _ _ _ w wi g hB hbk a gS gC hwa hag hSt hCt hgC hgS hn0 hn1 hf2 hc2 hwi h80
    ·by_cases h60 : 60 ≤ (l0_1.length : Int)
     ·exact walk_l2Write4 _ _ _ _ _ _ _ _ _ _ _ w wi g hB hbk a gS gC hwa hag hSt hCt hgC hgS hn0 hn1 hf2 hc2 hwi h80 h60
     ·exact absurd (by unfold putsB; rw [hwi, decide_eq_false h80, decide_eq_false h60]; rfl) hp
   ·exact walk_l2Write2 _ _ _ _ _ _ _ _ _ _ _ w wi g hB hbk a gS gC hwa hag hSt hCt hgC hgS hn0 hn1 hf2 hc2 (by simpa using hwi)
set_option maxHeartbeats 8000000 in
set_option maxRecDepth 100000 in
theorem walk_l2Flush1 (A0_0 : Option Addr) (c0_0 : Nat) (l0_0 : List (List Int)) (A0_1 : Option Addr) (c0_1 : Nat) (l0_1 : List (S50)) (a0_2 : Int) (w wi : World) (g : Nat) (hB : Below w.heap.size w wi) (hbk : wi.heap[g]? = some (.cells #[.slice A0_0 l0_0.length c0_0, .slice A0_1 l0_1.length c0_1, .int .i64 a0_2, .bool true] 25 (0, 0))) (a gS gC : Nat) (hwa : w.heap.size ≤ a ∧ 0 < a) (hag : a ≤ g) (hSt : gS < wi.heap.size ∧ g ≠ gS) (hCt : gC < wi.heap.size ∧ g ≠ gC) (hgC : ∀ k_, (Value.slice A0_1 l0_1.length c0_1).ownBlock = some k_ → k_ = gC) (hgS : ∀ k_, (Value.slice A0_0 l0_0.length c0_0).ownBlock = some k_ → k_ = gS) (hn0 : Kd.N (Kd.slice 5 (Kd.int .u8)) 37 wi w.heap.size (Ex a gC g) (.slice A0_0 l0_0.length c0_0) l0_0) (hn1 : Kd.N k50 50 wi w.heap.size (Ex a gS g) (.slice A0_1 l0_1.length c0_1) l0_1) :
  Calls Try.prog 60 #[.pointer (some ⟨g, 0, none⟩)] wi fun e w' => e = .returned (.tuple #[]) ∧ FlPost w wi w' a g gS l0_0 l0_1 a0_2 true := by
 have hu25 := Try.underlying25
 have hu50 := Try.underlying50
 have HB := aD.mk hB
 have BKg := aD.mk hbk
 have HKP := aD.mk (Kept.refl wi (fun k_ => a ≤ k_))
 obtain ⟨top, et_⟩ : ∃ n_, n_ = wi.heap.size := ⟨_, rfl⟩
 have HORD := aD.mk (show ((w.heap.size ≤ a ∧ 0 < a) ∧ a ≤ g) ∧ g + 1 ≤ top ∧ (gS < top ∧ g ≠ gS) ∧ (gC < top ∧ g ≠ gC) from ⟨⟨hwa, hag⟩, by rw [et_]; exact bJ hbk, by rw [et_]; exact hSt, by rw [et_]; exact hCt⟩)
 have HT := aD.mk (Nat.le_of_eq et_)
 have HN0 := aD.mk (Kd.bR (ok' := Exb a gC g top) (Kd.N_bound hn0) (fun k_ hk_ => ⟨hk_.1, by rw [et_]; exact hk_.2⟩))
 have HN1 := aD.mk (Kd.bR (ok' := Exb a gS g top) (Kd.N_bound hn1) (fun k_ hk_ => ⟨hk_.1, by rw [et_]; exact hk_.2⟩))
 have HGC := aD.mk hgC
 have HGS := aD.mk hgS
 have HTE := aD.mk et_
 clear hn0 hn1 hgC hgS et_ hwa hag hSt hCt
 clear hB hbk
 go_enter Try.func60, Try.ntmps60
 have hzg_0_0 : wi.cell? ⟨g, 0, none⟩ = some (.slice A0_0 l0_0.length c0_0) := (aC BKg.out 0).trans rfl
 have hyg_0_0 := aA BKg.out 0
 have hzg_1_0 : wi.cell? ⟨g, 1, none⟩ = some (.slice A0_1 l0_1.length c0_1) := (aC BKg.out 1).trans rfl
 have hyg_1_0 := aA BKg.out 1
 have hzg_2_0 : wi.cell? ⟨g, 2, none⟩ = some (.int .i64 a0_2) := (aC BKg.out 2).trans rfl
 have hyg_2_0 := aA BKg.out 2
 have hzg_3_0 : wi.cell? ⟨g, 3, none⟩ = some (.bool true) := (aC BKg.out 3).trans rfl
 have hyg_3_0 := aA BKg.out 3
 try go_wp2
 first | go_end0 | refine bodyPost_ret (fn := Try.f60) (results_none rfl _ _ _) rfl ?_
 exact ⟨rfl, by unfold FlPost; exact ⟨_, _, gC, BKg.out, HGC.out, (by have o_ := HORD.out; have t_ := HT.out; omega), (fun k_ hk_ => HGS.out k_ hk_), Kd.bR HN0.out (fun k_ hk_ => by have o_ := HORD.out; have t_ := HT.out; (try simp only [In2, Up, In, Ex, Exb] at hk_ ⊢); omega), Kd.bR HN1.out (fun k_ hk_ => by have o_ := HORD.out; have t_ := HT.out; (try simp only [In2, Up, In, Ex, Exb] at hk_ ⊢); omega), HB.out, HKP.out⟩⟩
set_option maxHeartbeats 8000000 in
set_option maxRecDepth 100000 in
theorem walk_l2Flush2 (A0_0 : Option Addr) (c0_0 : Nat) (l0_0 : List (List Int)) (A0_1 : Option Addr) (c0_1 : Nat) (l0_1 : List (S50)) (a0_2 : Int) (w wi : World) (g : Nat) (hB : Below w.heap.size w wi) (hbk : wi.heap[g]? = some (.cells #[.slice A0_0 l0_0.length c0_0, .slice A0_1 l0_1.length c0_1, .int .i64 a0_2, .bool false] 25 (0, 0))) (a gS gC : Nat) (hwa : w.heap.size ≤ a ∧ 0 < a) (hag : a ≤ g) (hSt : gS < wi.heap.size ∧ g ≠ gS) (hCt : gC < wi.heap.size ∧ g ≠ gC) (hgC : ∀ k_, (Value.slice A0_1 l0_1.length c0_1).ownBlock = some k_ → k_ = gC) (hgS : ∀ k_, (Value.slice A0_0 l0_0.length c0_0).ownBlock = some k_ → k_ = gS) (hn0 : Kd.N (Kd.slice 5 (Kd.int .u8)) 37 wi w.heap.size (Ex a gC g) (.slice A0_0 l0_0.length c0_0) l0_0) (hn1 : Kd.N k50 50 wi w.heap.size (Ex a gS g) (.slice A0_1 l0_1.length c0_1) l0_1) (f1 : Int) (b1 : Bool) (hbu : burnF a0_2 false = (f1, b1, false)) :
  Calls Try.prog 60 #[.pointer (some ⟨g, 0, none⟩)] wi fun e w' => e = .returned (.tuple #[]) ∧ FlPost w wi w' a g gS l0_0 l0_1 f1 b1 := by
 have hu25 := Try.underlying25
 have hu50 := Try.underlying50
 have HB := aD.mk hB
 have BKg := aD.mk hbk
 have HKP := aD.mk (Kept.refl wi (fun k_ => a ≤ k_))
 obtain ⟨top, et_⟩ : ∃ n_, n_ = wi.heap.size := ⟨_, rfl⟩
 have HORD := aD.mk (show ((w.heap.size ≤ a ∧ 0 < a) ∧ a ≤ g) ∧ g + 1 ≤ top ∧ (gS < top ∧ g ≠ gS) ∧ (gC < top ∧ g ≠ gC) from ⟨⟨hwa, hag⟩, by rw [et_]; exact bJ hbk, by rw [et_]; exact hSt, by rw [et_]; exact hCt⟩)
 have HT := aD.mk (Nat.le_of_eq et_)
 have HN0 := aD.mk (Kd.bR (ok' := Exb a gC g top) (Kd.N_bound hn0) (fun k_ hk_ => ⟨hk_.1, by rw [et_]; exact hk_.2⟩))
 have HN1 := aD.mk (Kd.bR (ok' := Exb a gS g top) (Kd.N_bound hn1) (fun k_ hk_ => ⟨hk_.1, by rw [et_]; exact hk_.2⟩))
 have HGC := aD.mk hgC
 have HGS := aD.mk hgS
 have HTE := aD.mk et_
 clear hn0 hn1 hgC hgS et_ hwa hag hSt hCt
 have JO := aD.mk hbu
 clear hB hbk
 go_enter Try.func60, Try.ntmps60
 have hzg_0_0 : wi.cell? ⟨g, 0, none⟩ = some (.slice A0_0 l0_0.length c0_0) := (aC BKg.out 0).trans rfl
 have hyg_0_0 := aA BKg.out 0
 have hzg_1_0 : wi.cell? ⟨g, 1, none⟩ = some (.slice A0_1 l0_1.length c0_1) := (aC BKg.out 1).trans rfl
 have hyg_1_0 := aA BKg.out 1
 have hzg_2_0 : wi.cell? ⟨g, 2, none⟩ = some (.int .i64 a0_2) := (aC BKg.out 2).trans rfl
 have hyg_2_0 := aA BKg.out 2
 have hzg_3_0 : wi.cell? ⟨g, 3, none⟩ = some (.bool false) := (aC BKg.out 3).trans rfl
 have hyg_3_0 := aA BKg.out 3
 go_wp2_with (first | ((with_reducible refine aY (f := 72) rfl ?_); refine gate_guard (by first | rfl | kernel_rfl) ?_; refine bL (some 9) rfl rfl Try.func72 (by kernel_rfl) rfl #[.pointer (some ⟨g, 0, none⟩)] rfl (by (try simp only [List.map_toArray, List.map_cons, List.map_nil]); first | done | rfl | (simp only [List.length_drop, List.length_take]; rfl)) ?_; (with_reducible refine (spec_l2OpS.calls (.slice A0_0 l0_0.length c0_0) (.slice A0_1 l0_1.length c0_1) _ _ f1 b1 false w _ g ?s1 ?s2 ?s3 JO.out).mono ?_); (case s1 => exact HB.out); (case s2 => exact BKg.out); (case s3 => exact (by have o_ := HORD.out; omega)); rintro e_ w1 ⟨rfl, hbk_, hbn_, hkp⟩; refine ⟨_, rfl, ?_⟩; have n0_ := aD.mk (Kd.N_kept HN0.out hkp (fun k_ h1_ h2_ => by have o_ := HORD.out; have t_ := HT.out; (try simp only [In2, Up, In, Ex, Exb] at h1_ h2_); omega)); have n1_ := aD.mk (Kd.N_kept HN1.out hkp (fun k_ h1_ h2_ => by have o_ := HORD.out; have t_ := HT.out; (try simp only [In2, Up, In, Ex, Exb] at h1_ h2_); omega)); have n2_ := aD.mk (HKP.out.then_ hkp (fun k_ h_ => by have o_ := HORD.out; have t_ := HT.out; (try simp only [In2, Up, In, Ex, Exb] at h_ ⊢); omega)); have n3_ := aD.mk (hbn_); have n4_ := aD.mk (hbk_); have n5_ := aD.mk (Nat.le_trans HT.out hkp.1); (try clear HN0); (try clear HN1); (try clear HKP); (try clear HB); (try clear BKg); (try clear HT); have HN0 := n0_; have HN1 := n1_; have HKP := n2_; have HB := n3_; have BKg := n4_; have HT := n5_; clear n0_ n1_ n2_ n3_ n4_ n5_; clear hbk_ hbn_ hkp; have hzg_0_1 : w1.cell? ⟨g, 0, none⟩ = some (.slice A0_0 l0_0.length c0_0) := (aC BKg.out 0).trans rfl; have hyg_0_1 := aA BKg.out 0; have hzg_1_1 : w1.cell? ⟨g, 1, none⟩ = some (.slice A0_1 l0_1.length c0_1) := (aC BKg.out 1).trans rfl; have hyg_1_1 := aA BKg.out 1; have hzg_2_1 : w1.cell? ⟨g, 2, none⟩ = some (.int .i64 f1) := (aC BKg.out 2).trans rfl; have hyg_2_1 := aA BKg.out 2; have hzg_3_1 : w1.cell? ⟨g, 3, none⟩ = some (.bool b1) := (aC BKg.out 3).trans rfl; have hyg_3_1 := aA BKg.out 3))
 first | go_end0 | refine bodyPost_ret (fn := Try.f60) (results_none rfl _ _ _) rfl ?_
 exact ⟨rfl, by unfold FlPost; exact ⟨_, _, gC, BKg.out, HGC.out, (by have o_ := HORD.out; have t_ := HT.out; omega), (fun k_ hk_ => HGS.out k_ hk_), Kd.bR HN0.out (fun k_ hk_ => by have o_ := HORD.out; have t_ := HT.out; (try simp only [In2, Up, In, Ex, Exb] at hk_ ⊢); omega), Kd.bR HN1.out (fun k_ hk_ => by have o_ := HORD.out; have t_ := HT.out; (try simp only [In2, Up, In, Ex, Exb] at hk_ ⊢); omega), HB.out, HKP.out⟩⟩
set_option maxHeartbeats 8000000 in
set_option maxRecDepth 100000 in
theorem walk_l2Flush3 (A0_0 : Option Addr) (c0_0 : Nat) (l0_0 : List (List Int)) (A0_1 : Option Addr) (c0_1 : Nat) (l0_1 : List (S50)) (a0_2 : Int) (w wi : World) (g : Nat) (hB : Below w.heap.size w wi) (hbk : wi.heap[g]? = some (.cells #[.slice A0_0 l0_0.length c0_0, .slice A0_1 l0_1.length c0_1, .int .i64 a0_2, .bool false] 25 (0, 0))) (a gS gC : Nat) (hwa : w.heap.size ≤ a ∧ 0 < a) (hag : a ≤ g) (hSt : gS < wi.heap.size ∧ g ≠ gS) (hCt : gC < wi.heap.size ∧ g ≠ gC) (hgC : ∀ k_, (Value.slice A0_1 l0_1.length c0_1).ownBlock = some k_ → k_ = gC) (hgS : ∀ k_, (Value.slice A0_0 l0_0.length c0_0).ownBlock = some k_ → k_ = gS) (hn0 : Kd.N (Kd.slice 5 (Kd.int .u8)) 37 wi w.heap.size (Ex a gC g) (.slice A0_0 l0_0.length c0_0) l0_0) (hn1 : Kd.N k50 50 wi w.heap.size (Ex a gS g) (.slice A0_1 l0_1.length c0_1) l0_1) (hl1 : l0_1.length ≤ 4194304) (hin : ∀ {x : Int} (i : Nat), x = (i : Int) → i < l0_1.length → 0 ≤ (rdW l0_1 x).f0 ∧ (rdW l0_1 x).f0 < (l0_0.length : Int)) (f1 : Int) (b1 : Bool) (hbu : burnF a0_2 false = (f1, b1, true)) :
  Calls Try.prog 60 #[.pointer (some ⟨g, 0, none⟩)] wi fun e w' => e = .returned (.tuple #[]) ∧ FlPost w wi w' a g gS ((flushSecs l0_0 l0_1 l0_1.length)) (([] : List (S50))) f1 b1 := by
 have hu25 := Try.underlying25
 have hu50 := Try.underlying50
 have HB := aD.mk hB
 have BKg := aD.mk hbk
 have HKP := aD.mk (Kept.refl wi (fun k_ => a ≤ k_))
 obtain ⟨top, et_⟩ : ∃ n_, n_ = wi.heap.size := ⟨_, rfl⟩
 have HORD := aD.mk (show ((w.heap.size ≤ a ∧ 0 < a) ∧ a ≤ g) ∧ g + 1 ≤ top ∧ (gS < top ∧ g ≠ gS) ∧ (gC < top ∧ g ≠ gC) from ⟨⟨hwa, hag⟩, by rw [et_]; exact bJ hbk, by rw [et_]; exact hSt, by rw [et_]; exact hCt⟩)
 have HT := aD.mk (Nat.le_of_eq et_)
 have HN0 := aD.mk (Kd.bR (ok' := Exb a gC g top) (Kd.N_bound hn0) (fun k_ hk_ => ⟨hk_.1, by rw [et_]; exact hk_.2⟩))
 have HN1 := aD.mk (Kd.bR (ok' := Exb a gS g top) (Kd.N_bound hn1) (fun k_ hk_ => ⟨hk_.1, by rw [et_]; exact hk_.2⟩))
 have HGC := aD.mk hgC
 have HGS := aD.mk hgS
 have HTE := aD.mk et_
 clear hn0 hn1 hgC hgS et_ hwa hag hSt hCt
 have HL1 := aD.mk (Kd.bR (ok' := Exb a gS g top) HN1.out (fun _ h_ => h_))
 have HF1 := aD.mk (Kd.N_F HN1.out)
 have HC1 := aD.mk (Kd.N_reads' HN1.out).2.1
 have JO := aD.mk hbu
 clear hB hbk
 go_enter Try.func60, Try.ntmps60
 have hzg_0_0 : wi.cell? ⟨g, 0, none⟩ = some (.slice A0_0 l0_0.length c0_0) := (aC BKg.out 0).trans rfl
 have hyg_0_0 := aA BKg.out 0
 have hzg_1_0 : wi.cell? ⟨g, 1, none⟩ = some (.slice A0_1 l0_1.length c0_1) := (aC BKg.out 1).trans rfl
 have hyg_1_0 := aA BKg.out 1
 have hzg_2_0 : wi.cell? ⟨g, 2, none⟩ = some (.int .i64 a0_2) := (aC BKg.out 2).trans rfl
 have hyg_2_0 := aA BKg.out 2
 have hzg_3_0 : wi.cell? ⟨g, 3, none⟩ = some (.bool false) := (aC BKg.out 3).trans rfl
 have hyg_3_0 := aA BKg.out 3
 go_wp2_with (first | ((with_reducible refine aY (f := 72) rfl ?_); refine gate_guard (by first | rfl | kernel_rfl) ?_; refine bL (some 9) rfl rfl Try.func72 (by kernel_rfl) rfl #[.pointer (some ⟨g, 0, none⟩)] rfl (by (try simp only [List.map_toArray, List.map_cons, List.map_nil]); first | done | rfl | (simp only [List.length_drop, List.length_take]; rfl)) ?_; (with_reducible refine (spec_l2OpS.calls (.slice A0_0 l0_0.length c0_0) (.slice A0_1 l0_1.length c0_1) _ _ f1 b1 true w _ g ?s1 ?s2 ?s3 JO.out).mono ?_); (case s1 => exact HB.out); (case s2 => exact BKg.out); (case s3 => exact (by have o_ := HORD.out; omega)); rintro e_ w1 ⟨rfl, hbk_, hbn_, hkp⟩; refine ⟨_, rfl, ?_⟩; have n0_ := aD.mk (Kd.N_kept HN0.out hkp (fun k_ h1_ h2_ => by have o_ := HORD.out; have t_ := HT.out; (try simp only [In2, Up, In, Ex, Exb] at h1_ h2_); omega)); have n1_ := aD.mk (Kd.aU HF1.out hkp (fun k_ h1_ h2_ => by have o_ := HORD.out; have t_ := HT.out; (try simp only [In2, Up, In, Ex, Exb] at h1_ h2_); omega)); have n2_ := aD.mk (Kd.N_kept HN1.out hkp (fun k_ h1_ h2_ => by have o_ := HORD.out; have t_ := HT.out; (try simp only [In2, Up, In, Ex, Exb] at h1_ h2_); omega)); have n3_ := aD.mk (HKP.out.then_ hkp (fun k_ h_ => by have o_ := HORD.out; have t_ := HT.out; (try simp only [In2, Up, In, Ex, Exb] at h_ ⊢); omega)); have n4_ := aD.mk (hbn_); have n5_ := aD.mk (hbk_); have n6_ := aD.mk (Nat.le_trans HT.out hkp.1); (try clear HN0); (try clear HF1); (try clear HN1); (try clear HKP); (try clear HB); (try clear BKg); (try clear HT); have HN0 := n0_; have HF1 := n1_; have HN1 := n2_; have HKP := n3_; have HB := n4_; have BKg := n5_; have HT := n6_; clear n0_ n1_ n2_ n3_ n4_ n5_ n6_; clear hbk_ hbn_ hkp; have hzg_0_1 : w1.cell? ⟨g, 0, none⟩ = some (.slice A0_0 l0_0.length c0_0) := (aC BKg.out 0).trans rfl; have hyg_0_1 := aA BKg.out 0; have hzg_1_1 : w1.cell? ⟨g, 1, none⟩ = some (.slice A0_1 l0_1.length c0_1) := (aC BKg.out 1).trans rfl; have hyg_1_1 := aA BKg.out 1; have hzg_2_1 : w1.cell? ⟨g, 2, none⟩ = some (.int .i64 f1) := (aC BKg.out 2).trans rfl; have hyg_2_1 := aA BKg.out 2; have hzg_3_1 : w1.cell? ⟨g, 3, none⟩ = some (.bool b1) := (aC BKg.out 3).trans rfl; have hyg_3_1 := aA BKg.out 3))
 go_loopg [2] (l0_1.length) (fun kq  v2 w' => ∃ (i2 : Nat) (x2 : Int) (u2 : Value), v2 = .int .i64 x2 ∧ aD (x2 = (i2 : Int)) ∧ aD (i2 + kq = l0_1.length) ∧ aD (top ≤ w'.heap.size) ∧ aD (Kd.N (Kd.slice 5 (Kd.int .u8)) 37 w' w.heap.size (Exb a g g top) u2 (flushSecs l0_0 l0_1 i2)) ∧ aD (∀ k_, (u2 : Value).ownBlock = some k_ → k_ = gS) ∧ aD (Kd.F k50 w' (Exb a gS g top) A0_1 l0_1.length l0_1) ∧ aD (Kd.N k50 50 w' w.heap.size (Exb a gS g top) (.slice A0_1 l0_1.length c0_1) l0_1) ∧ aD (Kept wi w' (fun k_ => a ≤ k_)) ∧ aD (w'.heap[g]? = some (.cells #[u2, .slice A0_1 l0_1.length c0_1, .int .i64 f1, .bool b1] 25 (0, 0))) ∧ aD (Below w.heap.size w w'))
 case atStart => exact ⟨0, 0, _, rfl, ⟨rfl⟩, ⟨Nat.zero_add _⟩, HT, ⟨by rw [show flushSecs l0_0 l0_1 0 = l0_0 from rfl]; exact Kd.bR HN0.out (fun k_ hk_ => by have o_ := HORD.out; (try simp only [In2, Up, In, Ex, Exb] at hk_ ⊢); omega)⟩, ⟨fun k_ hk_ => HGS.out k_ hk_⟩, HF1, HN1, HKP, BKg, HB⟩
 clear HF1 HN1 HKP BKg HB HT HN0
 obtain ⟨i2, x2, u2, rfl, HI2, HK2, HT, HS2, HGN, HF1, HN1, HKP, BKg, HB⟩ := hrel
 obtain ⟨xs2, ex_⟩ : ∃ y_, y_ = flushSecs l0_0 l0_1 i2 := ⟨_, rfl⟩
 rw [← ex_] at HS2
 have HX2 := aD.mk ex_
 clear ex_
 obtain ⟨A2, c2, ev_⟩ := Kd.N_slice HS2.out
 subst ev_
 rcases gk with _ | k1
 rotate_left
 ·have hp_ : 0 ≤ x2 := (by have := HI2.out; omega)
  have hq_ : x2 < (l0_1.length : Int) := (by have := HI2.out; have := HK2.out; omega)
  have hd_ : decide (x2 < (l0_1.length : Int)) = true := decide_eq_true hq_
  have hzg_0_2 : wr.cell? ⟨g, 0, none⟩ = some (.slice A2 xs2.length c2) := (aC BKg.out 0).trans rfl
  have hyg_0_2 := aA BKg.out 0
  have hzg_1_2 : wr.cell? ⟨g, 1, none⟩ = some (.slice A0_1 l0_1.length c0_1) := (aC BKg.out 1).trans rfl
  have hyg_1_2 := aA BKg.out 1
  have hzg_2_2 : wr.cell? ⟨g, 2, none⟩ = some (.int .i64 f1) := (aC BKg.out 2).trans rfl
  have hyg_2_2 := aA BKg.out 2
  have hzg_3_2 : wr.cell? ⟨g, 3, none⟩ = some (.bool b1) := (aC BKg.out 3).trans rfl
  have hyg_3_2 := aA BKg.out 3
  ·have WA_ := aD.mk hp_
   try go_wp2
   obtain ⟨ad3, Ae3, ce3, ee3, hx3_0, hx3_1, hl3, hf3⟩ := F_wr HF1.out x2 hp_ hq_
   cases ee3
   have HF3 := aD.mk hf3
   have HC3 := aD.mk hl3
   clear hf3 hl3
   have n_ := aD.mk (Kd.F_drew HF1.out)
   clear HF1
   have HF1 := n_
   clear n_
   have n_ := aD.mk (Kd.N_drew HN1.out)
   clear HN1
   have HN1 := n_
   clear n_
   have n_ := aD.mk (Kd.N_drew HS2.out)
   clear HS2
   have HS2 := n_
   clear n_
   have n_ := aD.mk (Kd.F_drew HF3.out)
   clear HF3
   have HF3 := n_
   clear n_
   have n_ := aD.mk (bA BKg.out)
   clear BKg
   have BKg := n_
   clear n_
   have n_ := aD.mk (aN HB.out)
   clear HB
   have HB := n_
   clear n_
   have n_ := aD.mk (show _ ≤ wr.drew.heap.size from HT.out)
   clear HT
   have HT := n_
   clear n_
   have n_ := aD.mk (show Kept wi wr.drew (fun k_ => a ≤ k_) from HKP.out)
   clear HKP
   have HKP := n_
   clear n_
   refine start_ (n := 22) (S := fun w' => w'.cell? ⟨g, 0, none⟩ = some (.slice A2 xs2.length c2) ∧ w'.cell? ⟨g, 1, none⟩ = some (.slice (some ad3) l0_1.length c0_1) ∧ w'.cell? ⟨g, 2, none⟩ = some (.int .i64 f1) ∧ w'.cell? ⟨g, 3, none⟩ = some (.bool b1) ∧ w'.cell? (ad3.add (x2.toNat * 2)) = some (.int .i64 (rdW l0_1 x2).f0) ∧ w'.cell? ⟨(ad3.add (x2.toNat * 2)).block, (ad3.add (x2.toNat * 2)).off + 1, none⟩ = some (.slice Ae3 ((rdW l0_1 x2).f1).length ce3)) (ds := [21]) #[false, false, false, false, false, false, false, false, false, false, false, false, false, false, false, false, false, false, false, false, false, false] (by kernel_rfl) rfl rfl ⟨(aC BKg.out 0).trans rfl, (aC BKg.out 1).trans rfl, (aC BKg.out 2).trans rfl, (aC BKg.out 3).trans rfl, hx3_0, hx3_1⟩ (fun hHeld => ?_)
   generalize wr.drew = w4 at HF1 HN1 HS2 HF3 BKg HB HT HKP hHeld ⊢
   refine bF (i := 0) (N := some 21) (v := ?_) (a' := ?_) #[true, false, false, false, false, false, false, false, false, false, false, false, false, false, false, false, false, false, false, false, false, false] rfl rfl (by kernel_rfl) (fun _ _ _ h => h) (Or.inl ⟨by rfl, ?_⟩) ?_ ?_
   rotate_left
   ·intro w'
    go_simp
    with_reducible rfl
   rotate_left
   ·simp only [Act.put, lA, lB, lC, aW, aX]
    rfl
   refine bF (i := 1) (N := some 22) (v := ?_) (a' := ?_) #[true, true, false, false, false, false, false, false, false, false, false, false, false, false, false, false, false, false, false, false, false, false] rfl rfl (by kernel_rfl) (fun _ _ _ h => h) (Or.inl ⟨by rfl, ?_⟩) ?_ ?_
   rotate_left
   ·intro w'
    go_simp
    with_reducible rfl
   rotate_left
   ·simp only [Act.put, lA, lB, lC, aW, aX]
    rfl
   refine bF (i := 2) (N := some 23) (v := ?_) (a' := ?_) #[true, true, true, false, false, false, false, false, false, false, false, false, false, false, false, false, false, false, false, false, false, false] rfl rfl (by kernel_rfl) (fun _ _ _ h => h) (Or.inl ⟨by rfl, ?_⟩) ?_ ?_
   rotate_left
   ·intro w'
    go_simp
    with_reducible rfl
   rotate_left
   ·simp only [Act.put, lA, lB, lC, aW, aX]
    rfl
   refine take_ (i := 3) (N := some 24) (v := ?_) (a' := ?_) #[true, true, true, true, false, false, false, false, false, false, false, false, false, false, false, false, false, false, false, false, false, false] rfl rfl (by kernel_rfl) (fun _ _ _ h => h) (Or.inl ⟨by rfl, ?_⟩) hHeld ?_ ?_
   rotate_left
   ·rintro w' ⟨s0, s1, s2, s3, s4, s5⟩
    go_simp
    with_reducible rfl
   rotate_left
   ·simp only [Act.put, lA, lB, lC, aW, aX]
    rfl
   refine bF (i := 4) (N := some 25) (v := ?_) (a' := ?_) #[true, true, true, true, true, false, false, false, false, false, false, false, false, false, false, false, false, false, false, false, false, false] rfl rfl (by kernel_rfl) (fun _ _ _ h => h) (Or.inl ⟨by rfl, ?_⟩) ?_ ?_
   rotate_left
   ·intro w'
    go_simp
    with_reducible rfl
   rotate_left
   ·simp only [Act.put, lA, lB, lC, aW, aX]
    rfl
   refine bF (i := 5) (N := some 26) (v := ?_) (a' := ?_) #[true, true, true, true, true, true, false, false, false, false, false, false, false, false, false, false, false, false, false, false, false, false] rfl rfl (by kernel_rfl) (fun _ _ _ h => h) (Or.inl ⟨by rfl, ?_⟩) ?_ ?_
   rotate_left
   ·intro w'
    go_simp
    with_reducible rfl
   rotate_left
   ·simp only [Act.put, lA, lB, lC, aW, aX]
    rfl
   refine bF (i := 6) (N := some 27) (v := ?_) (a' := ?_) #[true, true, true, true, true, true, true, false, false, false, false, false, false, false, false, false, false, false, false, false, false, false] rfl rfl (by kernel_rfl) (fun _ _ _ h => h) (Or.inl ⟨by rfl, ?_⟩) ?_ ?_
   rotate_left
   ·intro w'
    go_simp
    with_reducible rfl
   rotate_left
   ·simp only [Act.put, lA, lB, lC, aW, aX]
    rfl
   refine take_ (i := 7) (N := some 28) (v := ?_) (a' := ?_) #[true, true, true, true, true, true, true, true, false, false, false, false, false, false, false, false, false, false, false, false, false, false] rfl rfl (by kernel_rfl) (fun _ _ _ h => h) (Or.inl ⟨by rfl, ?_⟩) hHeld ?_ ?_
   rotate_left
   ·rintro w' ⟨s0, s1, s2, s3, s4, s5⟩
    go_simp
    with_reducible rfl
   rotate_left
   ·simp only [Act.put, lA, lB, lC, aW, aX]
    rfl
   refine bF (i := 8) (N := some 29) (v := ?_) (a' := ?_) #[true, true, true, true, true, true, true, true, true, false, false, false, false, false, false, false, false, false, false, false, false, false] rfl rfl (by kernel_rfl) (fun _ _ _ h => h) (Or.inl ⟨by rfl, ?_⟩) ?_ ?_
   rotate_left
   ·intro w'
    go_simp
    with_reducible rfl
   rotate_left
   ·simp only [Act.put, lA, lB, lC, aW, aX]
    rfl
   refine bF (i := 9) (N := some 30) (v := ?_) (a' := ?_) #[true, true, true, true, true, true, true, true, true, true, false, false, false, false, false, false, false, false, false, false, false, false] rfl rfl (by kernel_rfl) (fun _ _ _ h => h) (Or.inl ⟨by rfl, ?_⟩) ?_ ?_
   rotate_left
   ·intro w'
    go_simp
    with_reducible rfl
   rotate_left
   ·simp only [Act.put, lA, lB, lC, aW, aX]
    rfl
   refine bF (i := 10) (N := some 31) (v := ?_) (a' := ?_) #[true, true, true, true, true, true, true, true, true, true, true, false, false, false, false, false, false, false, false, false, false, false] rfl rfl (by kernel_rfl) (fun _ _ _ h => h) (Or.inl ⟨by rfl, ?_⟩) ?_ ?_
   rotate_left
   ·intro w'
    go_simp
    with_reducible rfl
   rotate_left
   ·simp only [Act.put, lA, lB, lC, aW, aX]
    rfl
   refine take_ (i := 11) (N := some 32) (v := ?_) (a' := ?_) #[true, true, true, true, true, true, true, true, true, true, true, true, false, false, false, false, false, false, false, false, false, false] rfl rfl (by kernel_rfl) (fun _ _ _ h => h) (Or.inl ⟨by rfl, ?_⟩) hHeld ?_ ?_
   rotate_left
   ·rintro w' ⟨s0, s1, s2, s3, s4, s5⟩
    go_simp
    with_reducible rfl
   rotate_left
   ·simp only [Act.put, lA, lB, lC, aW, aX]
    rfl
   refine bF (i := 12) (N := some 33) (v := ?_) (a' := ?_) #[true, true, true, true, true, true, true, true, true, true, true, true, true, false, false, false, false, false, false, false, false, false] rfl rfl (by kernel_rfl) (fun _ _ _ h => h) (Or.inl ⟨by rfl, ?_⟩) ?_ ?_
   rotate_left
   ·intro w'
    go_simp
    with_reducible rfl
   rotate_left
   ·simp only [Act.put, lA, lB, lC, aW, aX]
    rfl
   refine bF (i := 13) (N := some 34) (v := ?_) (a' := ?_) #[true, true, true, true, true, true, true, true, true, true, true, true, true, true, false, false, false, false, false, false, false, false] rfl rfl (by kernel_rfl) (fun _ _ _ h => h) (Or.inl ⟨by rfl, ?_⟩) ?_ ?_
   rotate_left
   ·intro w'
    go_simp
    with_reducible rfl
   rotate_left
   ·simp only [Act.put, lA, lB, lC, aW, aX]
    rfl
   refine bF (i := 14) (N := some 35) (v := ?_) (a' := ?_) #[true, true, true, true, true, true, true, true, true, true, true, true, true, true, true, false, false, false, false, false, false, false] rfl rfl (by kernel_rfl) (fun _ _ _ h => h) (Or.inl ⟨by rfl, ?_⟩) ?_ ?_
   rotate_left
   ·intro w'
    go_simp
    with_reducible rfl
   rotate_left
   ·simp only [Act.put, lA, lB, lC, aW, aX]
    rfl
   refine take_ (i := 15) (N := some 36) (v := ?_) (a' := ?_) #[true, true, true, true, true, true, true, true, true, true, true, true, true, true, true, true, false, false, false, false, false, false] rfl rfl (by kernel_rfl) (fun _ _ _ h => h) (Or.inl ⟨by rfl, ?_⟩) hHeld ?_ ?_
   rotate_left
   ·rintro w' ⟨s0, s1, s2, s3, s4, s5⟩
    go_simp
    with_reducible rfl
   rotate_left
   ·simp only [Act.put, lA, lB, lC, aW, aX]
    rfl
   refine bF (i := 16) (N := some 37) (v := ?_) (a' := ?_) #[true, true, true, true, true, true, true, true, true, true, true, true, true, true, true, true, true, false, false, false, false, false] rfl rfl (by kernel_rfl) (fun _ _ _ h => h) (Or.inl ⟨by rfl, ?_⟩) ?_ ?_
   rotate_left
   ·intro w'
    go_simp
    with_reducible rfl
   rotate_left
   ·simp only [Act.put, lA, lB, lC, aW, aX]
    rfl
   refine bF (i := 17) (N := some 38) (v := ?_) (a' := ?_) #[true, true, true, true, true, true, true, true, true, true, true, true, true, true, true, true, true, true, false, false, false, false] rfl rfl (by kernel_rfl) (fun _ _ _ h => h) (Or.inl ⟨by rfl, ?_⟩) ?_ ?_
   rotate_left
   ·intro w'
    go_simp
    with_reducible rfl
   rotate_left
   ·simp only [Act.put, lA, lB, lC, aW, aX]
    rfl
   refine bF (i := 18) (N := some 39) (v := ?_) (a' := ?_) #[true, true, true, true, true, true, true, true, true, true, true, true, true, true, true, true, true, true, true, false, false, false] rfl rfl (by kernel_rfl) (fun _ _ _ h => h) (Or.inl ⟨by rfl, ?_⟩) ?_ ?_
   rotate_left
   ·intro w'
    go_simp
    with_reducible rfl
   rotate_left
   ·simp only [Act.put, lA, lB, lC, aW, aX]
    rfl
   refine take_ (i := 19) (N := some 40) (v := ?_) (a' := ?_) #[true, true, true, true, true, true, true, true, true, true, true, true, true, true, true, true, true, true, true, true, false, false] rfl rfl (by kernel_rfl) (fun _ _ _ h => h) (Or.inl ⟨by rfl, ?_⟩) hHeld ?_ ?_
   rotate_left
   ·rintro w' ⟨s0, s1, s2, s3, s4, s5⟩
    go_simp
    with_reducible rfl
   rotate_left
   ·simp only [Act.put, lA, lB, lC, aW, aX]
    rfl
   have pI5 : 0 ≤ ((rdW l0_1 x2).f0) := (hin _ HI2.out (by have := HK2.out; omega)).1
   have qI5 : ((rdW l0_1 x2).f0) < ((xs2).length : Int) := (by have h_ := (hin _ HI2.out (by have := HK2.out; omega)).2; rw [HX2.out, flushSecs_length]; exact h_)
   obtain ⟨go5, co5, eo_, gb_, gl_, GG_⟩ := Kd.N_form HS2.out (by omega)
   injection eo_ with ea_ en_ ec_
   subst ea_
   subst ec_
   clear en_ GG_ gl_
   have GO5 := aD.mk ((HS2.out).1 go5 rfl)
   have GB5 := aD.mk gb_
   clear gb_
   have GN5 := aD.mk (HGN.out go5 rfl)
   obtain ⟨ce_, hcl_, hM_, hcc_, hfr_⟩ := Kd.N_elem HS2.out [] ((rdW l0_1 x2).f0) pI5 qI5
   obtain ⟨ua_, uc_, rfl, _, _⟩ := Kd.FK_slice_open hM_
   have hx5 := hcc_ 0 _ rfl
   have hf5 := hfr_ 0
   (try simp only [show (Kd.slice 5 (Kd.int .u8)).sz = 1 from rfl, Nat.mul_one, Nat.add_zero] at hx5)
   (try simp only [show (Kd.slice 5 (Kd.int .u8)).sz = 1 from rfl, Nat.mul_one, Nat.add_zero] at hf5)
   clear hcl_ hcc_ hfr_ hM_
   have PI5 := aD.mk pI5
   have QI5 := aD.mk qI5
   replace pI5 := eq_true pI5
   replace qI5 := eq_true qI5
   refine bF (i := 20) (N := some 41) (v := ?_) (a' := ?_) #[true, true, true, true, true, true, true, true, true, true, true, true, true, true, true, true, true, true, true, true, true, false] rfl rfl (by kernel_rfl) (fun _ _ _ h => h) (Or.inl ⟨by rfl, ?_⟩) ?_ ?_
   rotate_left
   ·intro w'
    go_simp
    with_reducible rfl
   rotate_left
   ·simp only [Act.put, lA, lB, lC, aW, aX]
    rfl
   refine last_ (i := 21) (N := none) #[true, true, true, true, true, true, true, true, true, true, true, true, true, true, true, true, true, true, true, true, true, true] rfl rfl (by kernel_rfl) (by decide) (fun K hK => ?_)
   obtain ⟨ce_, hcl_, hM_, hcc_, hfr_⟩ := Kd.N_elem HS2.out [] ((rdW l0_1 x2).f0) PI5.out QI5.out
   obtain ⟨ua_, uc_, rfl, _, _⟩ := Kd.FK_slice_open hM_
   have hp_ := (Kd.N_seg HS2.out ((rdW l0_1 x2).f0) PI5.out QI5.out (seg := [.slice Ae3 ((rdW l0_1 x2).f1).length ce3]) (j := 0) hcl_ hcc_ (show 1 ≤ 1 by decide) (x' := ((rdW l0_1 x2).f1)) (Kd.FK_slice_mk HC3.out (Kd.F_mono HF3.out (fun k_ hk_ => ⟨by (try simp only [In2, Up, In, Ex, Exb] at hk_ ⊢); omega, by have g_ := GN5.out; (try simp only [In2, Up, In, Ex, Exb] at hk_); omega⟩))) (fun _ hk => hk)).1
   (try simp only [show (Kd.slice 5 (Kd.int .u8)).sz = 1 from rfl, Nat.mul_one, Nat.add_zero] at hp_)
   have HP_ := aD.mk (show Kd.N (Kd.slice 5 (Kd.int .u8)) 37 (w4.setCell ⟨go5, ((rdW l0_1 x2).f0).toNat, none⟩ (.slice Ae3 ((rdW l0_1 x2).f1).length ce3)) w.heap.size (Exb a g g top) (.slice (some ⟨go5, 0, none⟩) xs2.length c2) (xs2.set ((rdW l0_1 x2).f0).toNat ((rdW l0_1 x2).f1)) from hp_)
   clear hp_ hfr_ hcc_ hcl_ hM_
   refine skip_ (w1 := ?_) (by rfl) rfl ?_ ?_
   rotate_left
   ·go_simp
    rfl
   refine hK.out _ _ ?_
   clear hK K
   refine done_ (by kernel_rfl) ?_
   obtain ⟨w6, hw_⟩ : ∃ z_, z_ = (w4.setCell ⟨go5, ((rdW l0_1 x2).f0).toNat, none⟩ (.slice Ae3 ((rdW l0_1 x2).f1).length ce3)) := ⟨_, rfl⟩
   (try rw [← hw_])
   have hs0_ := HP_.out
   clear HP_
   rw [← hw_] at hs0_
   obtain ⟨ys6, ey_⟩ : ∃ y_, y_ = xs2.set ((rdW l0_1 x2).f0).toNat ((rdW l0_1 x2).f1) := ⟨_, rfl⟩
   rw [← ey_] at hs0_
   have hle_ : ys6.length = (xs2).length := by rw [ey_, List.length_set]
   have HY6 := aD.mk ey_
   clear ey_
   rw [← hle_] at hs0_
   have hkp : Kept w4 w6 (fun k_ => k_ = go5) := (by rw [hw_]; exact Kept.setCell (Kept.refl w4 (fun k_ => k_ = go5)) (.inl rfl) (.slice Ae3 ((rdW l0_1 x2).f1).length ce3))
   have hbn_ : Below w.heap.size w w6 := (by rw [hw_]; exact aG HB.out (Nat.le_trans (by have o_ := HORD.out; omega) GB5.out))
   have hgo_ : go5 = gS ∧ a ≤ go5 := ⟨GN5.out, by have g_ := GO5.out; (try simp only [In2, Up, In, Ex, Exb] at g_); omega⟩
   have n_ := aD.mk (And.intro HORD.out hgo_)
   clear HORD
   have HORD := n_
   clear n_
   have n0_ := aD.mk (Kd.aU HF1.out hkp (fun k_ h1_ h2_ => by have o_ := HORD.out; have t_ := HT.out; (try simp only [In2, Up, In, Ex, Exb] at h1_ h2_); omega))
   have n1_ := aD.mk (Kd.N_kept HN1.out hkp (fun k_ h1_ h2_ => by have o_ := HORD.out; have t_ := HT.out; (try simp only [In2, Up, In, Ex, Exb] at h1_ h2_); omega))
   have n2_ := aD.mk (HKP.out.then_ hkp (fun k_ h_ => by have o_ := HORD.out; have t_ := HT.out; (try simp only [In2, Up, In, Ex, Exb] at h_ ⊢); omega))
   have n3_ := aD.mk (aV BKg.out hkp (fun h2_ => by have o_ := HORD.out; have t_ := HT.out; (try simp only [In2, Up, In, Ex, Exb] at h2_); omega))
   have n4_ := aD.mk (hbn_)
   have n5_ := aD.mk (Nat.le_trans HT.out hkp.1)
   have n6_ := aD.mk (hs0_)
   (try clear HF1)
   (try clear HN1)
   (try clear HKP)
   (try clear BKg)
   (try clear HB)
   (try clear HT)
   (try clear HS6)
   have HF1 := n0_
   have HN1 := n1_
   have HKP := n2_
   have BKg := n3_
   have HB := n4_
   have HT := n5_
   have HS6 := n6_
   clear n0_ n1_ n2_ n3_ n4_ n5_ n6_
   rw [← hle_] at BKg
   clear hle_ hs0_ hbn_ hkp hw_ hgo_
   have hzg_0_6 : w6.cell? ⟨g, 0, none⟩ = some (.slice (some ⟨go5, 0, none⟩) ys6.length c2) := (aC BKg.out 0).trans rfl
   have hyg_0_6 := aA BKg.out 0
   have hzg_1_6 : w6.cell? ⟨g, 1, none⟩ = some (.slice (some ad3) l0_1.length c0_1) := (aC BKg.out 1).trans rfl
   have hyg_1_6 := aA BKg.out 1
   have hzg_2_6 : w6.cell? ⟨g, 2, none⟩ = some (.int .i64 f1) := (aC BKg.out 2).trans rfl
   have hyg_2_6 := aA BKg.out 2
   have hzg_3_6 : w6.cell? ⟨g, 3, none⟩ = some (.bool b1) := (aC BKg.out 3).trans rfl
   have hyg_3_6 := aA BKg.out 3
   try go_wp2
   go_roundg k1
   case measure => omega
   case rel => exact ⟨i2 + 1, _, _, rfl, ⟨show _ = ((i2 + 1 : Nat) : Int) by have := HI2.out; have hm_ := hl1; have := HK2.out; first | (rw [w64 (by omega) (by omega)]; omega) | omega⟩, ⟨by have := HK2.out; omega⟩, ⟨Nat.le_trans (by have o_ := HORD.out; omega) HT.out⟩, ⟨by rw [show flushSecs l0_0 l0_1 (i2 + 1) = ys6 from (by rw [HY6.out, HX2.out]; exact flush_t HI2.out)]; exact HS6.out⟩, ⟨by intro k_ hk_; exact HGN.out k_ hk_⟩, HF1, HN1, HKP, BKg, HB⟩
 have hi0_ : i2 = l0_1.length := (by have := HK2.out; omega)
 have hd_ : decide (x2 < (l0_1.length : Int)) = false := decide_eq_false (by have := HI2.out; omega)
 have eall_ : xs2 = (flushSecs l0_0 l0_1 l0_1.length) := (by rw [HX2.out, hi0_])
 rw [eall_] at HS2 BKg HGN
 have hzg_0_6 : wr.cell? ⟨g, 0, none⟩ = some (.slice A2 ((flushSecs l0_0 l0_1 l0_1.length)).length c2) := (aC BKg.out 0).trans rfl
 have hyg_0_6 := aA BKg.out 0
 have hzg_1_6 : wr.cell? ⟨g, 1, none⟩ = some (.slice A0_1 l0_1.length c0_1) := (aC BKg.out 1).trans rfl
 have hyg_1_6 := aA BKg.out 1
 have hzg_2_6 : wr.cell? ⟨g, 2, none⟩ = some (.int .i64 f1) := (aC BKg.out 2).trans rfl
 have hyg_2_6 := aA BKg.out 2
 have hzg_3_6 : wr.cell? ⟨g, 3, none⟩ = some (.bool b1) := (aC BKg.out 3).trans rfl
 have hyg_3_6 := aA BKg.out 3
 go_wp2_with (first | ((with_reducible refine bE (N := 43) rfl ?_); refine Kd.N_lit k50 _ 50 ?hg (N' := 43) ?hd (xs := ([] : List (S50))) (inner := []) (ok := fun k_ => top ≤ k_) (okp := fun _ => False) ?hr ?hp (fun _ hk => hk.elim) HT.out (Below.refl _ _) (Nat.le_refl _) (by simp) ?_; (case hd => rfl); (case hg => rfl); (case hr => first | (go_simp; done) | (go_simp; rfl)); (case hp => exact (Reps.none _ _)); intro v7 w7 ho_ hb hg_ hat_; obtain ⟨gn7, hat_, hle_⟩ := hat_; have hgn_ : ∀ k_, v7.ownBlock = some k_ → k_ = gn7 := fun k_ hk_ => (by rw [hat_] at hk_; injection hk_ with hk_; exact hk_.symm); have hlt_ := Kd.N_lt ho_ gn7 hat_; obtain ⟨ys7, ey_⟩ : ∃ y_ : List (S50), y_ = [] := ⟨_, rfl⟩; rw [← ey_] at ho_; have HY7 := aD.mk ey_; clear ey_; obtain ⟨A7, c7, ev_⟩ := Kd.N_slice ho_; subst ev_; obtain ⟨hi7, e2_⟩ : ∃ n_, n_ = w7.heap.size := ⟨_, rfl⟩; have ol_ : top ≤ hi7 := (by rw [e2_]; exact Nat.le_trans HT.out hb.size); rw [← e2_] at hlt_; have hle2_ : top ≤ gn7 := Nat.le_trans HT.out hle_; have ho2_ := Kd.N_lower ho_ (bM HB.out); have n0_ := aD.mk (Kd.aE HF1.out hb); have n1_ := aD.mk (Kd.N_below HN1.out hb); have n2_ := aD.mk (Kd.N_below HS2.out hb); have n3_ := aD.mk (HKP.out.then_ (Kept.of_below hb (fun _ => False)) (fun _ h_ => h_.elim)); have n4_ := aD.mk (aH BKg.out hb); have n5_ := aD.mk (aQ HB.out hb); have n6_ := aD.mk (And.intro HORD.out (And.intro ol_ (And.intro hle2_ hlt_))); have n7_ := aD.mk (Nat.le_of_eq e2_); have n8_ := aD.mk (ho2_); have n9_ := aD.mk (hgn_); (try clear HF1); (try clear HN1); (try clear HS2); (try clear HKP); (try clear BKg); (try clear HB); (try clear HORD); (try clear HT); (try clear HS7); (try clear HG7); have HF1 := n0_; have HN1 := n1_; have HS2 := n2_; have HKP := n3_; have BKg := n4_; have HB := n5_; have HORD := n6_; have HT := n7_; have HS7 := n8_; have HG7 := n9_; clear n0_ n1_ n2_ n3_ n4_ n5_ n6_ n7_ n8_ n9_; clear hb ho_ ho2_ hg_ hat_ hle_ hle2_ hlt_ hgn_ ol_ e2_; have hzg_0_7 : w7.cell? ⟨g, 0, none⟩ = some (.slice A2 ((flushSecs l0_0 l0_1 l0_1.length)).length c2) := (aC BKg.out 0).trans rfl; have hyg_0_7 := aA BKg.out 0; have hzg_1_7 : w7.cell? ⟨g, 1, none⟩ = some (.slice A0_1 l0_1.length c0_1) := (aC BKg.out 1).trans rfl; have hyg_1_7 := aA BKg.out 1; have hzg_2_7 : w7.cell? ⟨g, 2, none⟩ = some (.int .i64 f1) := (aC BKg.out 2).trans rfl; have hyg_2_7 := aA BKg.out 2; have hzg_3_7 : w7.cell? ⟨g, 3, none⟩ = some (.bool b1) := (aC BKg.out 3).trans rfl; have hyg_3_7 := aA BKg.out 3) | ((with_reducible refine bK (t := 23) (p := 45) rfl ?_); refine bG (t := 23) (p := 45) (v := ?vo_w8) (w1 := (w7.setCell ⟨g, 1, none⟩ (.slice A7 ys7.length c7))) ?hg ?ho ?hn ?hr ?_; (case ho => rfl); (case hg => rfl); (case hn => rfl); (case hr => first | (go_simp; done) | (go_simp; rfl)); intro w8 hw_; have hkp : Kept w7 w8 (fun k_ => k_ = g) := (by rw [hw_]; exact Kept.setCell (Kept.refl w7 (fun k_ => k_ = g)) (.inl rfl) (.slice A7 ys7.length c7)); have hge_ : w.heap.size ≤ g := (by have o_ := HORD.out; (try unfold In at *); (try show _ ≠ _); omega); have hbn_ : Below w.heap.size w w8 := (by rw [hw_]; exact aG (HB.out) hge_); have hbk_ : w8.heap[g]? = some (.cells #[.slice A2 ((flushSecs l0_0 l0_1 l0_1.length)).length c2, .slice A7 ys7.length c7, .int .i64 f1, .bool b1] 25 (0, 0)) := (by rw [hw_]; exact aT (cs := #[.slice A2 ((flushSecs l0_0 l0_1 l0_1.length)).length c2, .slice A0_1 l0_1.length c0_1, .int .i64 f1, .bool b1]) (cs' := #[.slice A2 ((flushSecs l0_0 l0_1 l0_1.length)).length c2, .slice A7 ys7.length c7, .int .i64 f1, .bool b1]) (BKg.out) 1 _ rfl); have hsz_ : hi7 ≤ w8.heap.size := Nat.le_trans HT.out hkp.1; have n0_ := aD.mk (Kd.aU HF1.out hkp (fun k_ h1_ h2_ => by have o_ := HORD.out; have t_ := HT.out; (try simp only [In2, Up, In, Ex, Exb] at h1_ h2_); omega)); have n1_ := aD.mk (Kd.N_kept HN1.out hkp (fun k_ h1_ h2_ => by have o_ := HORD.out; have t_ := HT.out; (try simp only [In2, Up, In, Ex, Exb] at h1_ h2_); omega)); have n2_ := aD.mk (Kd.N_kept HS2.out hkp (fun k_ h1_ h2_ => by have o_ := HORD.out; have t_ := HT.out; (try simp only [In2, Up, In, Ex, Exb] at h1_ h2_); omega)); have n3_ := aD.mk (Kd.N_kept HS7.out hkp (fun k_ h1_ h2_ => by have o_ := HORD.out; have t_ := HT.out; (try simp only [In2, Up, In, Ex, Exb] at h1_ h2_); omega)); have n4_ := aD.mk (HKP.out.then_ hkp (fun k_ h_ => by have o_ := HORD.out; have t_ := HT.out; (try simp only [In2, Up, In, Ex, Exb] at h_ ⊢); omega)); have n5_ := aD.mk (hbn_); have n6_ := aD.mk (hbk_); have n7_ := aD.mk (hsz_); (try clear HF1); (try clear HN1); (try clear HS2); (try clear HS7); (try clear HKP); (try clear HB); (try clear BKg); (try clear HT); have HF1 := n0_; have HN1 := n1_; have HS2 := n2_; have HS7 := n3_; have HKP := n4_; have HB := n5_; have BKg := n6_; have HT := n7_; clear n0_ n1_ n2_ n3_ n4_ n5_ n6_ n7_; clear hw_ hkp hge_ hbn_ hbk_ hsz_; have hzg_0_8 : w8.cell? ⟨g, 0, none⟩ = some (.slice A2 ((flushSecs l0_0 l0_1 l0_1.length)).length c2) := (aC BKg.out 0).trans rfl; have hyg_0_8 := aA BKg.out 0; have hzg_1_8 : w8.cell? ⟨g, 1, none⟩ = some (.slice A7 ys7.length c7) := (aC BKg.out 1).trans rfl; have hyg_1_8 := aA BKg.out 1; have hzg_2_8 : w8.cell? ⟨g, 2, none⟩ = some (.int .i64 f1) := (aC BKg.out 2).trans rfl; have hyg_2_8 := aA BKg.out 2; have hzg_3_8 : w8.cell? ⟨g, 3, none⟩ = some (.bool b1) := (aC BKg.out 3).trans rfl; have hyg_3_8 := aA BKg.out 3))
 first | go_end0 | refine bodyPost_ret (fn := Try.f60) (results_none rfl _ _ _) rfl ?_
 exact ⟨rfl, by unfold FlPost; exact ⟨_, _, gn7, BKg.out, HG7.out, (by have o_ := HORD.out; have t_ := HT.out; omega), (fun k_ hk_ => HGN.out k_ hk_), Kd.bR HS2.out (fun k_ hk_ => by have o_ := HORD.out; have t_ := HT.out; (try simp only [In2, Up, In, Ex, Exb] at hk_ ⊢); omega), (by rw [← HY7.out]; exact Kd.bR HS7.out (fun k_ hk_ => by have o_ := HORD.out; have t_ := HT.out; (try simp only [In2, Up, In, Ex, Exb] at hk_ ⊢); omega)), HB.out, HKP.out⟩⟩
theorem spec_l2FlushS.calls (A0_0 : Option Addr) (c0_0 : Nat) (l0_0 : List (List Int)) (A0_1 : Option Addr) (c0_1 : Nat) (l0_1 : List (S50)) (a0_2 : Int) (a0_3 : Bool) (w wi : World) (g : Nat) (hB : Below w.heap.size w wi) (hbk : wi.heap[g]? = some (.cells #[.slice A0_0 l0_0.length c0_0, .slice A0_1 l0_1.length c0_1, .int .i64 a0_2, .bool a0_3] 25 (0, 0))) (a gS gC : Nat) (hwa : w.heap.size ≤ a ∧ 0 < a) (hag : a ≤ g) (hSt : gS < wi.heap.size ∧ g ≠ gS) (hCt : gC < wi.heap.size ∧ g ≠ gC) (hgC : ∀ k_, (Value.slice A0_1 l0_1.length c0_1).ownBlock = some k_ → k_ = gC) (hgS : ∀ k_, (Value.slice A0_0 l0_0.length c0_0).ownBlock = some k_ → k_ = gS) (hn0 : Kd.N (Kd.slice 5 (Kd.int .u8)) 37 wi w.heap.size (Ex a gC g) (.slice A0_0 l0_0.length c0_0) l0_0) (hn1 : Kd.N k50 50 wi w.heap.size (Ex a gS g) (.slice A0_1 l0_1.length c0_1) l0_1) (hl1 : l0_1.length ≤ 4194304) (hin : ∀ {x : Int} (i : Nat), x = (i : Int) → i < l0_1.length → 0 ≤ (rdW l0_1 x).f0 ∧ (rdW l0_1 x).f0 < (l0_0.length : Int)) :
  Calls Try.prog 60 #[.pointer (some ⟨g, 0, none⟩)] wi fun e w' => e = .returned (.tuple #[]) ∧ FlPost w wi w' a g gS (flushed l0_0 l0_1 a0_2 a0_3).1 (flushed l0_0 l0_1 a0_2 a0_3).2.1 (flushed l0_0 l0_1 a0_2 a0_3).2.2.1 (flushed l0_0 l0_1 a0_2 a0_3).2.2.2 := by
 unfold flushed
 cases a0_3 with
 | true => exact walk_l2Flush1 _ _ _ _ _ _ _ w wi g hB hbk a gS gC hwa hag hSt hCt hgC hgS hn0 hn1
 | false =>
  rw [if_neg (by decide)]
  obtain ⟨⟨f1, b1, o1⟩, hbu⟩ : ∃ z, burnF a0_2 false = z := ⟨_, rfl⟩
  rw [hbu]
  cases o1 with
  | true => exact walk_l2Flush3 _ _ _ _ _ _ _ w wi g hB hbk a gS gC hwa hag hSt hCt hgC hgS hn0 hn1 hl1 hin _ _ hbu
  | false => exact walk_l2Flush2 _ _ _ _ _ _ _ w wi g hB hbk a gS gC hwa hag hSt hCt hgC hgS hn0 hn1 _ _ hbu
end Go.Proofs.Ytilhcaofpfeioaa.Law

namespace Go.Proofs.Ytilhcaofpfeioaa.Law
open Go.RowKit Go.Proofs.Ytilhcaofpfeioaa.PFnDevs Go.Proofs.Ytilhcaofpfeioaa.Core Go.Proofs.YtilhcaofpfeioaaW.PrintWords Go.Proofs.YtilhcaofpfeioaaW.PrintLast Go.Proofs.YtilhcaofpfeioaaW.PrintMore Go.Proofs.Ytilhcaofpfeioaa.Pure
set_option linter.unusedSimpArgs false
set_option linter.unusedVariables false
def flOk (s : List (List Int)) (c : List (S50)) : Bool := decide (c.length ≤ 4194304) && allFrom (fun i => decide (0 ≤ (c.getD i z50).f0 ∧ (c.getD i z50).f0 < (s.length : Int))) c.length 0
def spec_l2Draw.l0 : Nat → Int → List (List Int) → List (S50) → Int → Bool → List Int → Int → Int → Option (List (List Int) × List (S50) × Int × Bool × Int × Int)
 | 0, _, _, _, _, _, _, _, _ => none
 | k + 1, i, s, c, f, d, x0, x1, x2 => if i > 0 then ((spec_l1Once.f x0 x1 x2 4).bind fun b => (if b.1 = true then (if flOk s c = true then spec_l2Draw.l0 k (wrap64 (i - 1)) (flushed s c f d).1 (flushed s c f d).2.1 (flushed s c f d).2.2.1 (flushed s c f d).2.2.2 x0 b.2.1 b.2.2 else none) else ((spec_l1Below.f x0 b.2.1 b.2.2 (s.length : Int)).bind fun n => ((spec_l1Below.f x0 n.2.1 n.2.2 4).bind fun q => ((spec_l1Bytes.f k x0 q.2.1 q.2.2 q.1).bind fun y => (spec_l2Draw.l0 k (wrap64 (i - 1)) s (wrote s c f d n.1 y.1).1 (wrote s c f d n.1 y.1).2.1 (wrote s c f d n.1 y.1).2.2 x0 y.2.1 y.2.2)))))) else some (s, c, f, d, x1, x2)
def spec_l2Draw.g (k : Nat) (x0 : List Int) (x1 : Int) (x2 : Int) : Option (List (List Int) × List (S50) × Int × Bool × Int × Int) := (spec_l1Below.f x0 x1 x2 6).bind fun n => ((spec_DevNew.f k (wrap64 (2 + n.1))).bind fun v => ((spec_l1Below.f x0 n.2.1 n.2.2 8).bind fun q => (spec_l2Draw.l0 k q.1 v.1 v.2.1 v.2.2.1 v.2.2.2 x0 q.2.1 q.2.2)))
theorem flOk_at {s : List (List Int)} {c : List (S50)} {x : Int} (h : flOk s c = true) (i : Nat) (hx : x = (i : Int)) (hi : i < c.length) : 0 ≤ (rdW c x).f0 ∧ (rdW c x).f0 < (s.length : Int) := by
 subst hx
 unfold flOk at h
 simp only [Bool.and_eq_true, decide_eq_true_eq] at h
 have h2 := allFrom_iff.1 h.2 i (Nat.zero_le i) hi
 simp only [decide_eq_true_eq] at h2
 unfold rdW
 rw [Int.toNat_natCast]
 exact h2
theorem flOk_len {s : List (List Int)} {c : List (S50)} (h : flOk s c = true) : c.length ≤ 4194304 := by
 unfold flOk at h
 simp only [Bool.and_eq_true, decide_eq_true_eq] at h
 exact h.1
set_option maxHeartbeats 8000000 in
set_option maxRecDepth 100000 in
theorem spec_l2Draw_calls (k : Nat) (g : Nat) (x0 : List Int) (x1 : Int) (x2 : Int) (r1 : List (List Int)) (r2 : List (S50)) (r3 : Int) (r4 : Bool) (r5 : Int) (r6 : Int) (w wi : World) (hI : IsS85 w wi g x0 x1 x2) (hB : Below w.heap.size w wi) (h : spec_l2Draw.g k x0 x1 x2 = some (r1, r2, r3, r4, r5, r6)) :
  Calls Try.prog 62 #[.pointer (some ⟨g, 0, none⟩)] wi fun e w' => ∃ v0_ v1_ : Value, e = .returned (.agg #[v0_, v1_, .int .i64 r3, .bool r4]) ∧ Kd.N (Kd.slice 5 (Kd.int .u8)) 37 w' wi.heap.size (fun k_ => (wi.heap.size ≤ k_) ∧ some k_ ≠ (v1_ : Value).ownBlock) v0_ r1 ∧ Kd.N k50 50 w' wi.heap.size (fun k_ => (wi.heap.size ≤ k_) ∧ some k_ ≠ (v0_ : Value).ownBlock) v1_ r2 ∧ IsS85 w w' g x0 r5 r6 ∧ Below w.heap.size w w' ∧ KeepBut wi w' g none := by
 have hu25 := Try.underlying25
 have hgl := IsS85.lt hI
 have hge := IsS85.ge hI
 obtain ⟨top, et_⟩ : ∃ n_, n_ = wi.heap.size := ⟨_, rfl⟩
 have HORD := aD.mk (show (w.heap.size ≤ g ∧ g + 1 ≤ top) ∧ top = wi.heap.size from ⟨⟨hge, by rw [et_]; exact hgl⟩, et_⟩)
 have HT := aD.mk (Nat.le_of_eq et_)
 have HI := aD.mk hI
 have HB := aD.mk hB
 have HKP := aD.mk (Kept.refl wi (fun k_ => k_ = g))
 unfold spec_l2Draw.g at h
 obtain ⟨⟨n1, y1, y2⟩, hA1, h⟩ := lF h
 obtain ⟨⟨s0, c0, f0, d0⟩, hA2, h⟩ := lF h
 obtain ⟨⟨q1, z1, z2⟩, hA3, h⟩ := lF h
 (try dsimp only at hA2 hA3 h)
 have A1 := aD.mk hA1
 have A2 := aD.mk hA2
 have A3 := aD.mk hA3
 have HH := aD.mk h
 have HTOP := aD.mk et_
 clear hA1 hA2 hA3 h hI hB hgl hge et_
 go_enter Try.func62, Try.ntmps62
 go_wp2_with (first | ((with_reducible refine bE (N := 2) rfl ?_); refine bD ?hg (N := 2) ?hd (cs := #[.slice none 0 0, .slice none 0 0, .int .i64 0, .bool false]) (t := 25) ?hr ?_; (case hd => rfl); (case hg => rfl); (case hr => first | (go_simp; done) | (go_simp; rfl)); intro gb1 hg_ w1 hbox hb; have hge_ : top ≤ gb1 := (by rw [hg_]; exact HT.out); have hlt_ : gb1 + 1 ≤ w1.heap.size := bJ hbox; have n0_ := aD.mk (IsS85.below HI.out hb); have n1_ := aD.mk (HKP.out.then_ (Kept.of_below hb (fun _ => False)) (fun _ h_ => h_.elim)); have n2_ := aD.mk (aQ HB.out hb); have n3_ := aD.mk (hbox); have n4_ := aD.mk (And.intro HORD.out (And.intro hge_ (Nat.le_succ gb1))); have n5_ := aD.mk (hlt_); (try clear HI); (try clear HKP); (try clear HB); (try clear BK1); (try clear HORD); (try clear HT); have HI := n0_; have HKP := n1_; have HB := n2_; have BK1 := n3_; have HORD := n4_; have HT := n5_; clear n0_ n1_ n2_ n3_ n4_ n5_; clear hb hbox hg_ hge_ hlt_; have hzgb1_0_1 : w1.cell? ⟨gb1, 0, none⟩ = some (.slice none 0 0) := (aC BK1.out 0).trans rfl; have hygb1_0_1 := aA BK1.out 0; have hzgb1_1_1 : w1.cell? ⟨gb1, 1, none⟩ = some (.slice none 0 0) := (aC BK1.out 1).trans rfl; have hygb1_1_1 := aA BK1.out 1; have hzgb1_2_1 : w1.cell? ⟨gb1, 2, none⟩ = some (.int .i64 0) := (aC BK1.out 2).trans rfl; have hygb1_2_1 := aA BK1.out 2; have hzgb1_3_1 : w1.cell? ⟨gb1, 3, none⟩ = some (.bool false) := (aC BK1.out 3).trans rfl; have hygb1_3_1 := aA BK1.out 3) | ((with_reducible refine aY (f := 66) rfl ?_); refine bL (some 6) rfl rfl Try.func66 (by kernel_rfl) rfl #[.pointer (some ⟨g, 0, none⟩), .int .i64 6] rfl (by (try simp only [List.map_toArray, List.map_cons, List.map_nil]); first | done | rfl | (simp only [List.length_drop, List.length_take]; rfl)) ?_; (with_reducible refine (spec_l1Below.calls g x0 x1 x2 6 n1 y1 y2 w _ HI.out HB.out A1.out).mono ?_); rintro e_ w2 ⟨rfl, hi_, hbn_, hk_⟩; refine ⟨_, rfl, ?_⟩; have hkp := kept_keep hk_; have n0_ := aD.mk (HKP.out.then_ hkp (fun k_ h_ => by have o_ := HORD.out; have t_ := HT.out; (try simp only [In2, Up, In, Ex, Exb] at h_ ⊢); omega)); have n1_ := aD.mk (aV BK1.out hkp (fun h2_ => by have o_ := HORD.out; have t_ := HT.out; (try simp only [In2, Up, In, Ex, Exb] at h2_); omega)); have n2_ := aD.mk (hbn_); have n3_ := aD.mk (hi_); have n4_ := aD.mk (Nat.le_trans HT.out hkp.1); (try clear HKP); (try clear BK1); (try clear HB); (try clear HI); (try clear HT); have HKP := n0_; have BK1 := n1_; have HB := n2_; have HI := n3_; have HT := n4_; clear n0_ n1_ n2_ n3_ n4_; clear hi_ hbn_ hk_ hkp; have hzgb1_0_2 : w2.cell? ⟨gb1, 0, none⟩ = some (.slice none 0 0) := (aC BK1.out 0).trans rfl; have hygb1_0_2 := aA BK1.out 0; have hzgb1_1_2 : w2.cell? ⟨gb1, 1, none⟩ = some (.slice none 0 0) := (aC BK1.out 1).trans rfl; have hygb1_1_2 := aA BK1.out 1; have hzgb1_2_2 : w2.cell? ⟨gb1, 2, none⟩ = some (.int .i64 0) := (aC BK1.out 2).trans rfl; have hygb1_2_2 := aA BK1.out 2; have hzgb1_3_2 : w2.cell? ⟨gb1, 3, none⟩ = some (.bool false) := (aC BK1.out 3).trans rfl; have hygb1_3_2 := aA BK1.out 3) | ((with_reducible refine aY (f := 12) rfl ?_); refine bL (some 8) rfl rfl Try.func12 (by kernel_rfl) rfl #[.int .i64 ((wrap64 (2 + n1)))] rfl (by (try simp only [List.map_toArray, List.map_cons, List.map_nil]); first | done | rfl | (simp only [List.length_drop, List.length_take]; rfl)) ?_; (with_reducible refine (spec_DevNew.calls k ((wrap64 (2 + n1))) s0 c0 f0 d0 _ A2.out).mono ?_); rintro e_ w3 ⟨v0_, v1_, rfl, ho0, ho1, hb⟩; refine ⟨_, rfl, ?_⟩; obtain ⟨lo3, hi3, el_, eh_, ol_, oh_⟩ := Mem.times HT.out hb; (try rw [← el_] at ho0); obtain ⟨A3_0, c3_0, ev_, hc0_, hf0_, hs0_⟩ := Mem.new_S ho0 eh_; subst ev_; (try rw [← el_] at ho1); obtain ⟨A3_1, c3_1, ev_, hc1_, hf1_, hs1_⟩ := Mem.new_S ho1 eh_; subst ev_; have n0_ := aD.mk (IsS85.below HI.out hb); have n1_ := aD.mk (HKP.out.then_ (Kept.of_below hb (fun _ => False)) (fun _ h_ => h_.elim)); have n2_ := aD.mk (aH BK1.out hb); have n3_ := aD.mk (aQ HB.out hb); have n4_ := aD.mk (hf0_); have n5_ := aD.mk (hc0_); have n6_ := aD.mk (hs0_); have n7_ := aD.mk (hf1_); have n8_ := aD.mk (hc1_); have n9_ := aD.mk (hs1_); have n10_ := aD.mk (And.intro HORD.out (And.intro ol_ oh_)); have n11_ := aD.mk (Nat.le_of_eq eh_); (try clear HI); (try clear HKP); (try clear BK1); (try clear HB); (try clear HF3_0); (try clear HC3_0); (try clear HS3_0); (try clear HF3_1); (try clear HC3_1); (try clear HS3_1); (try clear HORD); (try clear HT); have HI := n0_; have HKP := n1_; have BK1 := n2_; have HB := n3_; have HF3_0 := n4_; have HC3_0 := n5_; have HS3_0 := n6_; have HF3_1 := n7_; have HC3_1 := n8_; have HS3_1 := n9_; have HORD := n10_; have HT := n11_; clear n0_ n1_ n2_ n3_ n4_ n5_ n6_ n7_ n8_ n9_ n10_ n11_; clear ol_ oh_ el_ eh_ ho0 hf0_ hc0_ hs0_ ho1 hf1_ hc1_ hs1_; (try clear hb); have hzgb1_0_3 : w3.cell? ⟨gb1, 0, none⟩ = some (.slice none 0 0) := (aC BK1.out 0).trans rfl; have hygb1_0_3 := aA BK1.out 0; have hzgb1_1_3 : w3.cell? ⟨gb1, 1, none⟩ = some (.slice none 0 0) := (aC BK1.out 1).trans rfl; have hygb1_1_3 := aA BK1.out 1; have hzgb1_2_3 : w3.cell? ⟨gb1, 2, none⟩ = some (.int .i64 0) := (aC BK1.out 2).trans rfl; have hygb1_2_3 := aA BK1.out 2; have hzgb1_3_3 : w3.cell? ⟨gb1, 3, none⟩ = some (.bool false) := (aC BK1.out 3).trans rfl; have hygb1_3_3 := aA BK1.out 3) | ((with_reducible refine bE (N := 3) rfl ?_); refine bD ?hg (N := 3) ?hd (cs := #[.slice none 0 0, .slice none 0 0, .int .i64 0, .bool false]) (t := 25) ?hr ?_; (case hd => rfl); (case hg => rfl); (case hr => first | (go_simp; done) | (go_simp; rfl)); intro gb4 hg_ w4 hbox hb; have hge_ : hi3 ≤ gb4 := (by rw [hg_]; exact HT.out); have hlt_ : gb4 + 1 ≤ w4.heap.size := bJ hbox; have n0_ := aD.mk (Kd.aE HF3_0.out hb); have n1_ := aD.mk (Kd.bC HS3_0.out hb); have n2_ := aD.mk (Kd.aE HF3_1.out hb); have n3_ := aD.mk (Kd.bC HS3_1.out hb); have n4_ := aD.mk (IsS85.below HI.out hb); have n5_ := aD.mk (HKP.out.then_ (Kept.of_below hb (fun _ => False)) (fun _ h_ => h_.elim)); have n6_ := aD.mk (aH BK1.out hb); have n7_ := aD.mk (aQ HB.out hb); have n8_ := aD.mk (hbox); have n9_ := aD.mk (And.intro HORD.out (And.intro hge_ (Nat.le_succ gb4))); have n10_ := aD.mk (hlt_); (try clear HF3_0); (try clear HS3_0); (try clear HF3_1); (try clear HS3_1); (try clear HI); (try clear HKP); (try clear BK1); (try clear HB); (try clear BK4); (try clear HORD); (try clear HT); have HF3_0 := n0_; have HS3_0 := n1_; have HF3_1 := n2_; have HS3_1 := n3_; have HI := n4_; have HKP := n5_; have BK1 := n6_; have HB := n7_; have BK4 := n8_; have HORD := n9_; have HT := n10_; clear n0_ n1_ n2_ n3_ n4_ n5_ n6_ n7_ n8_ n9_ n10_; clear hb hbox hg_ hge_ hlt_; have hzgb1_0_4 : w4.cell? ⟨gb1, 0, none⟩ = some (.slice none 0 0) := (aC BK1.out 0).trans rfl; have hygb1_0_4 := aA BK1.out 0; have hzgb1_1_4 : w4.cell? ⟨gb1, 1, none⟩ = some (.slice none 0 0) := (aC BK1.out 1).trans rfl; have hygb1_1_4 := aA BK1.out 1; have hzgb1_2_4 : w4.cell? ⟨gb1, 2, none⟩ = some (.int .i64 0) := (aC BK1.out 2).trans rfl; have hygb1_2_4 := aA BK1.out 2; have hzgb1_3_4 : w4.cell? ⟨gb1, 3, none⟩ = some (.bool false) := (aC BK1.out 3).trans rfl; have hygb1_3_4 := aA BK1.out 3; have hzgb4_0_4 : w4.cell? ⟨gb4, 0, none⟩ = some (.slice none 0 0) := (aC BK4.out 0).trans rfl; have hygb4_0_4 := aA BK4.out 0; have hzgb4_1_4 : w4.cell? ⟨gb4, 1, none⟩ = some (.slice none 0 0) := (aC BK4.out 1).trans rfl; have hygb4_1_4 := aA BK4.out 1; have hzgb4_2_4 : w4.cell? ⟨gb4, 2, none⟩ = some (.int .i64 0) := (aC BK4.out 2).trans rfl; have hygb4_2_4 := aA BK4.out 2; have hzgb4_3_4 : w4.cell? ⟨gb4, 3, none⟩ = some (.bool false) := (aC BK4.out 3).trans rfl; have hygb4_3_4 := aA BK4.out 3) | ((with_reducible refine bK (t := 25) (p := 3) rfl ?_); refine bG (t := 25) (p := 3) (v := ?vo_w5) (w1 := ((((w4.setCell ⟨gb4, 0, none⟩ (.slice A3_0 s0.length c3_0)).setCell ⟨gb4, 1, none⟩ (.slice A3_1 c0.length c3_1)).setCell ⟨gb4, 2, none⟩ (.int .i64 f0)).setCell ⟨gb4, 3, none⟩ (.bool d0))) ?hg ?ho ?hn ?hr ?_; (case ho => rfl); (case hg => rfl); (case hn => rfl); (case hr => first | (go_simp; done) | (go_simp; rfl)); intro w5 hw_; have hkp : Kept w4 w5 (fun k_ => k_ = gb4) := (by rw [hw_]; exact Kept.setCell (Kept.setCell (Kept.setCell (Kept.setCell (Kept.refl w4 (fun k_ => k_ = gb4)) (.inl rfl) (.slice A3_0 s0.length c3_0)) (.inl rfl) (.slice A3_1 c0.length c3_1)) (.inl rfl) (.int .i64 f0)) (.inl rfl) (.bool d0)); have hge_ : w.heap.size ≤ gb4 := (by have o_ := HORD.out; (try unfold In at *); (try show _ ≠ _); omega); have hbn_ : Below w.heap.size w w5 := (by rw [hw_]; exact aG (aG (aG (aG (HB.out) hge_) hge_) hge_) hge_); have hbk_ : w5.heap[gb4]? = some (.cells #[.slice A3_0 s0.length c3_0, .slice A3_1 c0.length c3_1, .int .i64 f0, .bool d0] 25 (0, 0)) := (by rw [hw_]; exact aT (cs := #[.slice A3_0 s0.length c3_0, .slice A3_1 c0.length c3_1, .int .i64 f0, .bool false]) (cs' := #[.slice A3_0 s0.length c3_0, .slice A3_1 c0.length c3_1, .int .i64 f0, .bool d0]) (aT (cs := #[.slice A3_0 s0.length c3_0, .slice A3_1 c0.length c3_1, .int .i64 0, .bool false]) (cs' := #[.slice A3_0 s0.length c3_0, .slice A3_1 c0.length c3_1, .int .i64 f0, .bool false]) (aT (cs := #[.slice A3_0 s0.length c3_0, .slice none 0 0, .int .i64 0, .bool false]) (cs' := #[.slice A3_0 s0.length c3_0, .slice A3_1 c0.length c3_1, .int .i64 0, .bool false]) (aT (cs := #[.slice none 0 0, .slice none 0 0, .int .i64 0, .bool false]) (cs' := #[.slice A3_0 s0.length c3_0, .slice none 0 0, .int .i64 0, .bool false]) (BK4.out) 0 _ rfl) 1 _ rfl) 2 _ rfl) 3 _ rfl); have hsz_ : (gb4 + 1) ≤ w5.heap.size := Nat.le_trans HT.out hkp.1; have n0_ := aD.mk (Kd.aU HF3_0.out hkp (fun k_ h1_ h2_ => by have o_ := HORD.out; have t_ := HT.out; (try simp only [In2, Up, In, Ex, Exb] at h1_ h2_); omega)); have n1_ := aD.mk (Kd.bN HS3_0.out hkp (fun k_ h1_ h2_ => by have o_ := HORD.out; have t_ := HT.out; (try simp only [In2, Up, In, Ex, Exb] at h1_ h2_); omega)); have n2_ := aD.mk (Kd.aU HF3_1.out hkp (fun k_ h1_ h2_ => by have o_ := HORD.out; have t_ := HT.out; (try simp only [In2, Up, In, Ex, Exb] at h1_ h2_); omega)); have n3_ := aD.mk (Kd.bN HS3_1.out hkp (fun k_ h1_ h2_ => by have o_ := HORD.out; have t_ := HT.out; (try simp only [In2, Up, In, Ex, Exb] at h1_ h2_); omega)); have n4_ := aD.mk (IsS85.kept HI.out hkp (fun h2_ => by have o_ := HORD.out; have t_ := HT.out; (try simp only [In2, Up, In, Ex, Exb] at h2_); omega)); have n5_ := aD.mk (HKP.out.then_ hkp (fun k_ h_ => by have o_ := HORD.out; have t_ := HT.out; (try simp only [In2, Up, In, Ex, Exb] at h_ ⊢); omega)); have n6_ := aD.mk (aV BK1.out hkp (fun h2_ => by have o_ := HORD.out; have t_ := HT.out; (try simp only [In2, Up, In, Ex, Exb] at h2_); omega)); have n7_ := aD.mk (hbn_); have n8_ := aD.mk (hbk_); have n9_ := aD.mk (hsz_); (try clear HF3_0); (try clear HS3_0); (try clear HF3_1); (try clear HS3_1); (try clear HI); (try clear HKP); (try clear BK1); (try clear HB); (try clear BK4); (try clear HT); have HF3_0 := n0_; have HS3_0 := n1_; have HF3_1 := n2_; have HS3_1 := n3_; have HI := n4_; have HKP := n5_; have BK1 := n6_; have HB := n7_; have BK4 := n8_; have HT := n9_; clear n0_ n1_ n2_ n3_ n4_ n5_ n6_ n7_ n8_ n9_; clear hw_ hkp hge_ hbn_ hbk_ hsz_; have hzgb1_0_5 : w5.cell? ⟨gb1, 0, none⟩ = some (.slice none 0 0) := (aC BK1.out 0).trans rfl; have hygb1_0_5 := aA BK1.out 0; have hzgb1_1_5 : w5.cell? ⟨gb1, 1, none⟩ = some (.slice none 0 0) := (aC BK1.out 1).trans rfl; have hygb1_1_5 := aA BK1.out 1; have hzgb1_2_5 : w5.cell? ⟨gb1, 2, none⟩ = some (.int .i64 0) := (aC BK1.out 2).trans rfl; have hygb1_2_5 := aA BK1.out 2; have hzgb1_3_5 : w5.cell? ⟨gb1, 3, none⟩ = some (.bool false) := (aC BK1.out 3).trans rfl; have hygb1_3_5 := aA BK1.out 3; have hzgb4_0_5 : w5.cell? ⟨gb4, 0, none⟩ = some (.slice A3_0 s0.length c3_0) := (aC BK4.out 0).trans rfl; have hygb4_0_5 := aA BK4.out 0; have hzgb4_1_5 : w5.cell? ⟨gb4, 1, none⟩ = some (.slice A3_1 c0.length c3_1) := (aC BK4.out 1).trans rfl; have hygb4_1_5 := aA BK4.out 1; have hzgb4_2_5 : w5.cell? ⟨gb4, 2, none⟩ = some (.int .i64 f0) := (aC BK4.out 2).trans rfl; have hygb4_2_5 := aA BK4.out 2; have hzgb4_3_5 : w5.cell? ⟨gb4, 3, none⟩ = some (.bool d0) := (aC BK4.out 3).trans rfl; have hygb4_3_5 := aA BK4.out 3) | ((with_reducible refine aY (f := 66) rfl ?_); refine bL (some 10) rfl rfl Try.func66 (by kernel_rfl) rfl #[.pointer (some ⟨g, 0, none⟩), .int .i64 8] rfl (by (try simp only [List.map_toArray, List.map_cons, List.map_nil]); first | done | rfl | (simp only [List.length_drop, List.length_take]; rfl)) ?_; (with_reducible refine (spec_l1Below.calls g x0 y1 y2 8 q1 z1 z2 w _ HI.out HB.out A3.out).mono ?_); rintro e_ w6 ⟨rfl, hi_, hbn_, hk_⟩; refine ⟨_, rfl, ?_⟩; have hkp := kept_keep hk_; have n0_ := aD.mk (Kd.aU HF3_0.out hkp (fun k_ h1_ h2_ => by have o_ := HORD.out; have t_ := HT.out; (try simp only [In2, Up, In, Ex, Exb] at h1_ h2_); omega)); have n1_ := aD.mk (Kd.bN HS3_0.out hkp (fun k_ h1_ h2_ => by have o_ := HORD.out; have t_ := HT.out; (try simp only [In2, Up, In, Ex, Exb] at h1_ h2_); omega)); have n2_ := aD.mk (Kd.aU HF3_1.out hkp (fun k_ h1_ h2_ => by have o_ := HORD.out; have t_ := HT.out; (try simp only [In2, Up, In, Ex, Exb] at h1_ h2_); omega)); have n3_ := aD.mk (Kd.bN HS3_1.out hkp (fun k_ h1_ h2_ => by have o_ := HORD.out; have t_ := HT.out; (try simp only [In2, Up, In, Ex, Exb] at h1_ h2_); omega)); have n4_ := aD.mk (HKP.out.then_ hkp (fun k_ h_ => by have o_ := HORD.out; have t_ := HT.out; (try simp only [In2, Up, In, Ex, Exb] at h_ ⊢); omega)); have n5_ := aD.mk (aV BK1.out hkp (fun h2_ => by have o_ := HORD.out; have t_ := HT.out; (try simp only [In2, Up, In, Ex, Exb] at h2_); omega)); have n6_ := aD.mk (aV BK4.out hkp (fun h2_ => by have o_ := HORD.out; have t_ := HT.out; (try simp only [In2, Up, In, Ex, Exb] at h2_); omega)); have n7_ := aD.mk (hbn_); have n8_ := aD.mk (hi_); have n9_ := aD.mk (Nat.le_trans HT.out hkp.1); (try clear HF3_0); (try clear HS3_0); (try clear HF3_1); (try clear HS3_1); (try clear HKP); (try clear BK1); (try clear BK4); (try clear HB); (try clear HI); (try clear HT); have HF3_0 := n0_; have HS3_0 := n1_; have HF3_1 := n2_; have HS3_1 := n3_; have HKP := n4_; have BK1 := n5_; have BK4 := n6_; have HB := n7_; have HI := n8_; have HT := n9_; clear n0_ n1_ n2_ n3_ n4_ n5_ n6_ n7_ n8_ n9_; clear hi_ hbn_ hk_ hkp; have hzgb1_0_6 : w6.cell? ⟨gb1, 0, none⟩ = some (.slice none 0 0) := (aC BK1.out 0).trans rfl; have hygb1_0_6 := aA BK1.out 0; have hzgb1_1_6 : w6.cell? ⟨gb1, 1, none⟩ = some (.slice none 0 0) := (aC BK1.out 1).trans rfl; have hygb1_1_6 := aA BK1.out 1; have hzgb1_2_6 : w6.cell? ⟨gb1, 2, none⟩ = some (.int .i64 0) := (aC BK1.out 2).trans rfl; have hygb1_2_6 := aA BK1.out 2; have hzgb1_3_6 : w6.cell? ⟨gb1, 3, none⟩ = some (.bool false) := (aC BK1.out 3).trans rfl; have hygb1_3_6 := aA BK1.out 3; have hzgb4_0_6 : w6.cell? ⟨gb4, 0, none⟩ = some (.slice A3_0 s0.length c3_0) := (aC BK4.out 0).trans rfl; have hygb4_0_6 := aA BK4.out 0; have hzgb4_1_6 : w6.cell? ⟨gb4, 1, none⟩ = some (.slice A3_1 c0.length c3_1) := (aC BK4.out 1).trans rfl; have hygb4_1_6 := aA BK4.out 1; have hzgb4_2_6 : w6.cell? ⟨gb4, 2, none⟩ = some (.int .i64 f0) := (aC BK4.out 2).trans rfl; have hygb4_2_6 := aA BK4.out 2; have hzgb4_3_6 : w6.cell? ⟨gb4, 3, none⟩ = some (.bool d0) := (aC BK4.out 3).trans rfl; have hygb4_3_6 := aA BK4.out 3))
 obtain ⟨gS_, hSl_, hSe_, hS4_⟩ := own_num (.slice A3_0 s0.length c3_0) w6.heap.size (by have o_ := HORD.out; have t_ := HT.out; omega) (Kd.S_lt HS3_0.out)
 obtain ⟨gC_, hCl_, hCe_, hC4_⟩ := own_num (.slice A3_1 c0.length c3_1) w6.heap.size (by have o_ := HORD.out; have t_ := HT.out; omega) (Kd.S_lt HS3_1.out)
 have hn0_ := Kd.bR (ok' := Ex lo3 gC_ gb4) (Kd.R_N (Kd.S_R (Kd.S_apart' (Kd.bQ HS3_0.out (by have o_ := HORD.out; omega) : Kd.S (Kd.slice 5 (Kd.int .u8)) 37 w6 w.heap.size (In lo3 hi3) (.slice A3_0 s0.length c3_0) s0) (Kd.S_typed HS3_1.out) (by decide)))) (fun k_ hk_ => ⟨hk_.1.1, ex_of hC4_ hCe_ hk_.2 (by have h1_ := hk_.1.1; have o_ := HORD.out; omega), by have h1_ := hk_.1.2; have o_ := HORD.out; omega⟩)
 have hn1_ := Kd.bR (ok' := Ex lo3 gS_ gb4) (Kd.R_N (Kd.S_R (Kd.S_apart' (Kd.bQ HS3_1.out (by have o_ := HORD.out; omega) : Kd.S k50 50 w6 w.heap.size (In lo3 hi3) (.slice A3_1 c0.length c3_1) c0) (Kd.S_typed HS3_0.out) (by decide)))) (fun k_ hk_ => ⟨hk_.1.1, ex_of hS4_ hSe_ hk_.2 (by have h1_ := hk_.1.1; have o_ := HORD.out; omega), by have h1_ := hk_.1.2; have o_ := HORD.out; omega⟩)
 have hgS_ := ex_of hS4_ hSe_ (Kd.S_ne HS3_0.out BK4.out (by decide)) (by have o_ := HORD.out; have t_ := HT.out; omega)
 have hgC_ := ex_of hC4_ hCe_ (Kd.S_ne HS3_1.out BK4.out (by decide)) (by have o_ := HORD.out; have t_ := HT.out; omega)
 go_loopg [4] k (fun kq v4 w' => ∃ (i : Int) (s : List (List Int)) (c : List (S50)) (f : Int) (d : Bool) (p1 p2 : Int) (u0 u1 : Value) (gS gC : Nat), v4 = .int .i64 i ∧ aD (spec_l2Draw.l0 kq i s c f d x0 p1 p2 = some (r1, r2, r3, r4, r5, r6)) ∧ aD ((gb4 + 1) ≤ w'.heap.size) ∧ aD ((gS < w'.heap.size ∧ gb4 ≠ gS) ∧ gC < w'.heap.size ∧ gb4 ≠ gC) ∧ aD (∀ k_, u0.ownBlock = some k_ → k_ = gS) ∧ aD (∀ k_, u1.ownBlock = some k_ → k_ = gC) ∧ aD (Kd.N (Kd.slice 5 (Kd.int .u8)) 37 w' w.heap.size (Ex lo3 gC gb4) u0 s) ∧ aD (Kd.N k50 50 w' w.heap.size (Ex lo3 gS gb4) u1 c) ∧ aD (IsS85 w w' g x0 p1 p2) ∧ aD (w'.heap[gb1]? = some (.cells #[.slice none 0 0, .slice none 0 0, .int .i64 0, .bool false] 25 (0, 0))) ∧ aD (w'.heap[gb4]? = some (.cells #[u0, u1, .int .i64 f, .bool d] 25 (0, 0))) ∧ aD (Below w.heap.size w w') ∧ aD (Kept wi w' (fun k_ => k_ = g)) ∧ aD (kq ≤ k))
 case atStart => exact ⟨q1, s0, c0, f0, d0, z1, z2, _, _, gS_, gC_, rfl, HH, HT, ⟨⟨hSl_, hgS_⟩, hCl_, hgC_⟩, ⟨hSe_⟩, ⟨hCe_⟩, ⟨hn0_⟩, ⟨hn1_⟩, HI, BK1, BK4, HB, HKP, ⟨Nat.le_refl _⟩⟩
 clear HH HT HI HB HKP BK1 BK4 hSl_ hSe_ hS4_ hCl_ hCe_ hC4_ hn0_ hn1_ hgS_ hgC_ HS3_0 HF3_0 HS3_1 HF3_1
 obtain ⟨i, s, c, f, d, p1, p2, u0, u1, gS, gC, rfl, HH, HT, HGG, HGS, HGC, HN0, HN1, HI, BK1, BK4, HB, HKP, HKK⟩ := hrel
 obtain ⟨A0, c0_0, ev_⟩ := Kd.N_slice HN0.out
 subst ev_
 obtain ⟨A1_, c0_1, ev_⟩ := Kd.N_slice HN1.out
 subst ev_
 obtain ⟨top2, e2_⟩ : ∃ n_, n_ = wr.heap.size := ⟨_, rfl⟩
 have n0_ := aD.mk (show _ ∧ (gb4 + 1) ≤ top2 ∧ (gS < top2 ∧ gb4 ≠ gS) ∧ gC < top2 ∧ gb4 ≠ gC from ⟨HORD.out, by rw [e2_]; exact HT.out, by rw [e2_]; exact HGG.out.1, by rw [e2_]; exact HGG.out.2⟩)
 have n1_ := aD.mk (Nat.le_of_eq e2_)
 clear HORD HT HGG
 have HORD := n0_
 have HT := n1_
 clear n0_ n1_ e2_
 rcases gk with _ | k1
 ·exact absurd HH.out (by simp [spec_l2Draw.l0])
 have h := HH.out
 simp only [spec_l2Draw.l0] at h
 by_cases hi : i > 0
 rotate_left
 ·rw [if_neg hi] at h
  simp only [Option.some.injEq, Prod.mk.injEq] at h
  obtain ⟨rfl, rfl, rfl, rfl, rfl, rfl⟩ := h
  have hd_ : decide (0 < i) = false := decide_eq_false hi
  clear hi HH
  have hzgb1_0_6 : wr.cell? ⟨gb1, 0, none⟩ = some (.slice none 0 0) := (aC BK1.out 0).trans rfl
  have hygb1_0_6 := aA BK1.out 0
  have hzgb1_1_6 : wr.cell? ⟨gb1, 1, none⟩ = some (.slice none 0 0) := (aC BK1.out 1).trans rfl
  have hygb1_1_6 := aA BK1.out 1
  have hzgb1_2_6 : wr.cell? ⟨gb1, 2, none⟩ = some (.int .i64 0) := (aC BK1.out 2).trans rfl
  have hygb1_2_6 := aA BK1.out 2
  have hzgb1_3_6 : wr.cell? ⟨gb1, 3, none⟩ = some (.bool false) := (aC BK1.out 3).trans rfl
  have hygb1_3_6 := aA BK1.out 3
  have hzgb4_0_6 : wr.cell? ⟨gb4, 0, none⟩ = some (.slice A0 s.length c0_0) := (aC BK4.out 0).trans rfl
  have hygb4_0_6 := aA BK4.out 0
  have hzgb4_1_6 : wr.cell? ⟨gb4, 1, none⟩ = some (.slice A1_ c.length c0_1) := (aC BK4.out 1).trans rfl
  have hygb4_1_6 := aA BK4.out 1
  have hzgb4_2_6 : wr.cell? ⟨gb4, 2, none⟩ = some (.int .i64 f) := (aC BK4.out 2).trans rfl
  have hygb4_2_6 := aA BK4.out 2
  have hzgb4_3_6 : wr.cell? ⟨gb4, 3, none⟩ = some (.bool d) := (aC BK4.out 3).trans rfl
  have hygb4_3_6 := aA BK4.out 3
  go_wp2_with (first | ((with_reducible refine bK (t := 25) (p := 2) rfl ?_); refine bG (t := 25) (p := 2) (v := ?vo_w7) (w1 := ((((wr.setCell ⟨gb1, 0, none⟩ (.slice A0 s.length c0_0)).setCell ⟨gb1, 1, none⟩ (.slice A1_ c.length c0_1)).setCell ⟨gb1, 2, none⟩ (.int .i64 f)).setCell ⟨gb1, 3, none⟩ (.bool d))) ?hg ?ho ?hn ?hr ?_; (case ho => rfl); (case hg => rfl); (case hn => rfl); (case hr => first | (go_simp; done) | (go_simp; rfl)); intro w7 hw_; have hkp : Kept wr w7 (fun k_ => k_ = gb1) := (by rw [hw_]; exact Kept.setCell (Kept.setCell (Kept.setCell (Kept.setCell (Kept.refl wr (fun k_ => k_ = gb1)) (.inl rfl) (.slice A0 s.length c0_0)) (.inl rfl) (.slice A1_ c.length c0_1)) (.inl rfl) (.int .i64 f)) (.inl rfl) (.bool d)); have hge_ : w.heap.size ≤ gb1 := (by have o_ := HORD.out; (try unfold In at *); (try show _ ≠ _); omega); have hbn_ : Below w.heap.size w w7 := (by rw [hw_]; exact aG (aG (aG (aG (HB.out) hge_) hge_) hge_) hge_); have hbk_ : w7.heap[gb1]? = some (.cells #[.slice A0 s.length c0_0, .slice A1_ c.length c0_1, .int .i64 f, .bool d] 25 (0, 0)) := (by rw [hw_]; exact aT (cs := #[.slice A0 s.length c0_0, .slice A1_ c.length c0_1, .int .i64 f, .bool false]) (cs' := #[.slice A0 s.length c0_0, .slice A1_ c.length c0_1, .int .i64 f, .bool d]) (aT (cs := #[.slice A0 s.length c0_0, .slice A1_ c.length c0_1, .int .i64 0, .bool false]) (cs' := #[.slice A0 s.length c0_0, .slice A1_ c.length c0_1, .int .i64 f, .bool false]) (aT (cs := #[.slice A0 s.length c0_0, .slice none 0 0, .int .i64 0, .bool false]) (cs' := #[.slice A0 s.length c0_0, .slice A1_ c.length c0_1, .int .i64 0, .bool false]) (aT (cs := #[.slice none 0 0, .slice none 0 0, .int .i64 0, .bool false]) (cs' := #[.slice A0 s.length c0_0, .slice none 0 0, .int .i64 0, .bool false]) (BK1.out) 0 _ rfl) 1 _ rfl) 2 _ rfl) 3 _ rfl); have hsz_ : top2 ≤ w7.heap.size := Nat.le_trans HT.out hkp.1; have n0_ := aD.mk (Kd.N_kept HN0.out hkp (fun k_ h1_ h2_ => by have o_ := HORD.out; have t_ := HT.out; (try simp only [In2, Up, In, Ex, Exb] at h1_ h2_); omega)); have n1_ := aD.mk (Kd.N_kept HN1.out hkp (fun k_ h1_ h2_ => by have o_ := HORD.out; have t_ := HT.out; (try simp only [In2, Up, In, Ex, Exb] at h1_ h2_); omega)); have n2_ := aD.mk (IsS85.kept HI.out hkp (fun h2_ => by have o_ := HORD.out; have t_ := HT.out; (try simp only [In2, Up, In, Ex, Exb] at h2_); omega)); have n3_ := aD.mk (HKP.out.then_ hkp (fun k_ h_ => by have o_ := HORD.out; have t_ := HT.out; (try simp only [In2, Up, In, Ex, Exb] at h_ ⊢); omega)); have n4_ := aD.mk (aV BK4.out hkp (fun h2_ => by have o_ := HORD.out; have t_ := HT.out; (try simp only [In2, Up, In, Ex, Exb] at h2_); omega)); have n5_ := aD.mk (hbn_); have n6_ := aD.mk (hbk_); have n7_ := aD.mk (hsz_); (try clear HN0); (try clear HN1); (try clear HI); (try clear HKP); (try clear BK4); (try clear HB); (try clear BK1); (try clear HT); have HN0 := n0_; have HN1 := n1_; have HI := n2_; have HKP := n3_; have BK4 := n4_; have HB := n5_; have BK1 := n6_; have HT := n7_; clear n0_ n1_ n2_ n3_ n4_ n5_ n6_ n7_; clear hw_ hkp hge_ hbn_ hbk_ hsz_; have hzgb1_0_7 : w7.cell? ⟨gb1, 0, none⟩ = some (.slice A0 s.length c0_0) := (aC BK1.out 0).trans rfl; have hygb1_0_7 := aA BK1.out 0; have hzgb1_1_7 : w7.cell? ⟨gb1, 1, none⟩ = some (.slice A1_ c.length c0_1) := (aC BK1.out 1).trans rfl; have hygb1_1_7 := aA BK1.out 1; have hzgb1_2_7 : w7.cell? ⟨gb1, 2, none⟩ = some (.int .i64 f) := (aC BK1.out 2).trans rfl; have hygb1_2_7 := aA BK1.out 2; have hzgb1_3_7 : w7.cell? ⟨gb1, 3, none⟩ = some (.bool d) := (aC BK1.out 3).trans rfl; have hygb1_3_7 := aA BK1.out 3; have hzgb4_0_7 : w7.cell? ⟨gb4, 0, none⟩ = some (.slice A0 s.length c0_0) := (aC BK4.out 0).trans rfl; have hygb4_0_7 := aA BK4.out 0; have hzgb4_1_7 : w7.cell? ⟨gb4, 1, none⟩ = some (.slice A1_ c.length c0_1) := (aC BK4.out 1).trans rfl; have hygb4_1_7 := aA BK4.out 1; have hzgb4_2_7 : w7.cell? ⟨gb4, 2, none⟩ = some (.int .i64 f) := (aC BK4.out 2).trans rfl; have hygb4_2_7 := aA BK4.out 2; have hzgb4_3_7 : w7.cell? ⟨gb4, 3, none⟩ = some (.bool d) := (aC BK4.out 3).trans rfl; have hygb4_3_7 := aA BK4.out 3))
  refine bodyPost_ret (fn := Try.f62) (P := Try.prog) (results_cell_row rfl _ _ gb1 25 #[.slice A0 s.length c0_0, .slice A1_ c.length c0_1, .int .i64 f, .bool d] (0, 0) _ rfl BK1.out Try.underlying25 rfl (by kernel_rfl)) rfl ?_
  exact ⟨_, _, rfl, Kd.bR (N_raise HN0.out (fun k_ he_ => by have h1_ := HN0.out.1 k_ he_; have o_ := HORD.out; (try simp only [Ex] at h1_); omega)) (fun k_ hk_ => ⟨by have o_ := HORD.out; (try simp only [Ex] at hk_); omega, fun he_ => hk_.2.1 (HGC.out k_ he_.symm)⟩), Kd.bR (N_raise HN1.out (fun k_ he_ => by have h1_ := HN1.out.1 k_ he_; have o_ := HORD.out; (try simp only [Ex] at h1_); omega)) (fun k_ hk_ => ⟨by have o_ := HORD.out; (try simp only [Ex] at hk_); omega, fun he_ => hk_.2.1 (HGS.out k_ he_.symm)⟩), HI.out, HB.out, keep_kept HKP.out⟩
 rw [if_pos hi] at h
 obtain ⟨⟨b_, t1, t2⟩, hB1, h⟩ := lF h
 (try dsimp only at h)
 have B1 := aD.mk hB1
 clear hB1
 cases b_
 ·have hd_ : decide (0 < i) = true := decide_eq_true hi
  rw [if_neg (by decide)] at h
  obtain ⟨⟨m1, e1, e2⟩, hB2, h⟩ := lF h
  obtain ⟨⟨m2, e3, e4⟩, hB3, h⟩ := lF h
  obtain ⟨⟨yy, e5, e6⟩, hB4, h⟩ := lF h
  have B2 := aD.mk hB2
  have B3 := aD.mk hB3
  have B4 := aD.mk hB4
  clear hB2 hB3 hB4
  (try dsimp only at h)
  have H2 := aD.mk h
  clear h hi HH
  have hzgb1_0_9 : wr.cell? ⟨gb1, 0, none⟩ = some (.slice none 0 0) := (aC BK1.out 0).trans rfl
  have hygb1_0_9 := aA BK1.out 0
  have hzgb1_1_9 : wr.cell? ⟨gb1, 1, none⟩ = some (.slice none 0 0) := (aC BK1.out 1).trans rfl
  have hygb1_1_9 := aA BK1.out 1
  have hzgb1_2_9 : wr.cell? ⟨gb1, 2, none⟩ = some (.int .i64 0) := (aC BK1.out 2).trans rfl
  have hygb1_2_9 := aA BK1.out 2
  have hzgb1_3_9 : wr.cell? ⟨gb1, 3, none⟩ = some (.bool false) := (aC BK1.out 3).trans rfl
  have hygb1_3_9 := aA BK1.out 3
  have hzgb4_0_9 : wr.cell? ⟨gb4, 0, none⟩ = some (.slice A0 s.length c0_0) := (aC BK4.out 0).trans rfl
  have hygb4_0_9 := aA BK4.out 0
  have hzgb4_1_9 : wr.cell? ⟨gb4, 1, none⟩ = some (.slice A1_ c.length c0_1) := (aC BK4.out 1).trans rfl
  have hygb4_1_9 := aA BK4.out 1
  have hzgb4_2_9 : wr.cell? ⟨gb4, 2, none⟩ = some (.int .i64 f) := (aC BK4.out 2).trans rfl
  have hygb4_2_9 := aA BK4.out 2
  have hzgb4_3_9 : wr.cell? ⟨gb4, 3, none⟩ = some (.bool d) := (aC BK4.out 3).trans rfl
  have hygb4_3_9 := aA BK4.out 3
  go_wp2_with (first | ((with_reducible refine aY (f := 67) rfl ?_); refine bL (some 16) rfl rfl Try.func67 (by kernel_rfl) rfl #[.pointer (some ⟨g, 0, none⟩), .int .i64 4] rfl (by (try simp only [List.map_toArray, List.map_cons, List.map_nil]); first | done | rfl | (simp only [List.length_drop, List.length_take]; rfl)) ?_; (with_reducible refine (spec_l1Once.calls g x0 p1 p2 4 false t1 t2 w _ HI.out HB.out B1.out).mono ?_); rintro e_ w10 ⟨rfl, hi_, hbn_, hk_⟩; refine ⟨_, rfl, ?_⟩; have hkp := kept_keep hk_; have n0_ := aD.mk (Kd.N_kept HN0.out hkp (fun k_ h1_ h2_ => by have o_ := HORD.out; have t_ := HT.out; (try simp only [In2, Up, In, Ex, Exb] at h1_ h2_); omega)); have n1_ := aD.mk (Kd.N_kept HN1.out hkp (fun k_ h1_ h2_ => by have o_ := HORD.out; have t_ := HT.out; (try simp only [In2, Up, In, Ex, Exb] at h1_ h2_); omega)); have n2_ := aD.mk (HKP.out.then_ hkp (fun k_ h_ => by have o_ := HORD.out; have t_ := HT.out; (try simp only [In2, Up, In, Ex, Exb] at h_ ⊢); omega)); have n3_ := aD.mk (aV BK1.out hkp (fun h2_ => by have o_ := HORD.out; have t_ := HT.out; (try simp only [In2, Up, In, Ex, Exb] at h2_); omega)); have n4_ := aD.mk (aV BK4.out hkp (fun h2_ => by have o_ := HORD.out; have t_ := HT.out; (try simp only [In2, Up, In, Ex, Exb] at h2_); omega)); have n5_ := aD.mk (hbn_); have n6_ := aD.mk (hi_); have n7_ := aD.mk (Nat.le_trans HT.out hkp.1); (try clear HN0); (try clear HN1); (try clear HKP); (try clear BK1); (try clear BK4); (try clear HB); (try clear HI); (try clear HT); have HN0 := n0_; have HN1 := n1_; have HKP := n2_; have BK1 := n3_; have BK4 := n4_; have HB := n5_; have HI := n6_; have HT := n7_; clear n0_ n1_ n2_ n3_ n4_ n5_ n6_ n7_; clear hi_ hbn_ hk_ hkp; have hzgb1_0_10 : w10.cell? ⟨gb1, 0, none⟩ = some (.slice none 0 0) := (aC BK1.out 0).trans rfl; have hygb1_0_10 := aA BK1.out 0; have hzgb1_1_10 : w10.cell? ⟨gb1, 1, none⟩ = some (.slice none 0 0) := (aC BK1.out 1).trans rfl; have hygb1_1_10 := aA BK1.out 1; have hzgb1_2_10 : w10.cell? ⟨gb1, 2, none⟩ = some (.int .i64 0) := (aC BK1.out 2).trans rfl; have hygb1_2_10 := aA BK1.out 2; have hzgb1_3_10 : w10.cell? ⟨gb1, 3, none⟩ = some (.bool false) := (aC BK1.out 3).trans rfl; have hygb1_3_10 := aA BK1.out 3; have hzgb4_0_10 : w10.cell? ⟨gb4, 0, none⟩ = some (.slice A0 s.length c0_0) := (aC BK4.out 0).trans rfl; have hygb4_0_10 := aA BK4.out 0; have hzgb4_1_10 : w10.cell? ⟨gb4, 1, none⟩ = some (.slice A1_ c.length c0_1) := (aC BK4.out 1).trans rfl; have hygb4_1_10 := aA BK4.out 1; have hzgb4_2_10 : w10.cell? ⟨gb4, 2, none⟩ = some (.int .i64 f) := (aC BK4.out 2).trans rfl; have hygb4_2_10 := aA BK4.out 2; have hzgb4_3_10 : w10.cell? ⟨gb4, 3, none⟩ = some (.bool d) := (aC BK4.out 3).trans rfl; have hygb4_3_10 := aA BK4.out 3) | ((with_reducible refine aY (f := 66) rfl ?_); refine bL (some 22) rfl rfl Try.func66 (by kernel_rfl) rfl #[.pointer (some ⟨g, 0, none⟩), .int .i64 ((s.length : Int))] rfl (by (try simp only [List.map_toArray, List.map_cons, List.map_nil]); first | done | rfl | (simp only [List.length_drop, List.length_take]; rfl)) ?_; (with_reducible refine (spec_l1Below.calls g x0 t1 t2 ((s.length : Int)) m1 e1 e2 w _ HI.out HB.out B2.out).mono ?_); rintro e_ w11 ⟨rfl, hi_, hbn_, hk_⟩; refine ⟨_, rfl, ?_⟩; have hkp := kept_keep hk_; have n0_ := aD.mk (Kd.N_kept HN0.out hkp (fun k_ h1_ h2_ => by have o_ := HORD.out; have t_ := HT.out; (try simp only [In2, Up, In, Ex, Exb] at h1_ h2_); omega)); have n1_ := aD.mk (Kd.N_kept HN1.out hkp (fun k_ h1_ h2_ => by have o_ := HORD.out; have t_ := HT.out; (try simp only [In2, Up, In, Ex, Exb] at h1_ h2_); omega)); have n2_ := aD.mk (HKP.out.then_ hkp (fun k_ h_ => by have o_ := HORD.out; have t_ := HT.out; (try simp only [In2, Up, In, Ex, Exb] at h_ ⊢); omega)); have n3_ := aD.mk (aV BK1.out hkp (fun h2_ => by have o_ := HORD.out; have t_ := HT.out; (try simp only [In2, Up, In, Ex, Exb] at h2_); omega)); have n4_ := aD.mk (aV BK4.out hkp (fun h2_ => by have o_ := HORD.out; have t_ := HT.out; (try simp only [In2, Up, In, Ex, Exb] at h2_); omega)); have n5_ := aD.mk (hbn_); have n6_ := aD.mk (hi_); have n7_ := aD.mk (Nat.le_trans HT.out hkp.1); (try clear HN0); (try clear HN1); (try clear HKP); (try clear BK1); (try clear BK4); (try clear HB); (try clear HI); (try clear HT); have HN0 := n0_; have HN1 := n1_; have HKP := n2_; have BK1 := n3_; have BK4 := n4_; have HB := n5_; have HI := n6_; have HT := n7_; clear n0_ n1_ n2_ n3_ n4_ n5_ n6_ n7_; clear hi_ hbn_ hk_ hkp; have hzgb1_0_11 : w11.cell? ⟨gb1, 0, none⟩ = some (.slice none 0 0) := (aC BK1.out 0).trans rfl; have hygb1_0_11 := aA BK1.out 0; have hzgb1_1_11 : w11.cell? ⟨gb1, 1, none⟩ = some (.slice none 0 0) := (aC BK1.out 1).trans rfl; have hygb1_1_11 := aA BK1.out 1; have hzgb1_2_11 : w11.cell? ⟨gb1, 2, none⟩ = some (.int .i64 0) := (aC BK1.out 2).trans rfl; have hygb1_2_11 := aA BK1.out 2; have hzgb1_3_11 : w11.cell? ⟨gb1, 3, none⟩ = some (.bool false) := (aC BK1.out 3).trans rfl; have hygb1_3_11 := aA BK1.out 3; have hzgb4_0_11 : w11.cell? ⟨gb4, 0, none⟩ = some (.slice A0 s.length c0_0) := (aC BK4.out 0).trans rfl; have hygb4_0_11 := aA BK4.out 0; have hzgb4_1_11 : w11.cell? ⟨gb4, 1, none⟩ = some (.slice A1_ c.length c0_1) := (aC BK4.out 1).trans rfl; have hygb4_1_11 := aA BK4.out 1; have hzgb4_2_11 : w11.cell? ⟨gb4, 2, none⟩ = some (.int .i64 f) := (aC BK4.out 2).trans rfl; have hygb4_2_11 := aA BK4.out 2; have hzgb4_3_11 : w11.cell? ⟨gb4, 3, none⟩ = some (.bool d) := (aC BK4.out 3).trans rfl; have hygb4_3_11 := aA BK4.out 3) | ((with_reducible refine aY (f := 66) rfl ?_); refine bL (some 25) rfl rfl Try.func66 (by kernel_rfl) rfl #[.pointer (some ⟨g, 0, none⟩), .int .i64 4] rfl (by (try simp only [List.map_toArray, List.map_cons, List.map_nil]); first | done | rfl | (simp only [List.length_drop, List.length_take]; rfl)) ?_; (with_reducible refine (spec_l1Below.calls g x0 e1 e2 4 m2 e3 e4 w _ HI.out HB.out B3.out).mono ?_); rintro e_ w12 ⟨rfl, hi_, hbn_, hk_⟩; refine ⟨_, rfl, ?_⟩; have hkp := kept_keep hk_; have n0_ := aD.mk (Kd.N_kept HN0.out hkp (fun k_ h1_ h2_ => by have o_ := HORD.out; have t_ := HT.out; (try simp only [In2, Up, In, Ex, Exb] at h1_ h2_); omega)); have n1_ := aD.mk (Kd.N_kept HN1.out hkp (fun k_ h1_ h2_ => by have o_ := HORD.out; have t_ := HT.out; (try simp only [In2, Up, In, Ex, Exb] at h1_ h2_); omega)); have n2_ := aD.mk (HKP.out.then_ hkp (fun k_ h_ => by have o_ := HORD.out; have t_ := HT.out; (try simp only [In2, Up, In, Ex, Exb] at h_ ⊢); omega)); have n3_ := aD.mk (aV BK1.out hkp (fun h2_ => by have o_ := HORD.out; have t_ := HT.out; (try simp only [In2, Up, In, Ex, Exb] at h2_); omega)); have n4_ := aD.mk (aV BK4.out hkp (fun h2_ => by have o_ := HORD.out; have t_ := HT.out; (try simp only [In2, Up, In, Ex, Exb] at h2_); omega)); have n5_ := aD.mk (hbn_); have n6_ := aD.mk (hi_); have n7_ := aD.mk (Nat.le_trans HT.out hkp.1); (try clear HN0); (try clear HN1); (try clear HKP); (try clear BK1); (try clear BK4); (try clear HB); (try clear HI); (try clear HT); have HN0 := n0_; have HN1 := n1_; have HKP := n2_; have BK1 := n3_; have BK4 := n4_; have HB := n5_; have HI := n6_; have HT := n7_; clear n0_ n1_ n2_ n3_ n4_ n5_ n6_ n7_; clear hi_ hbn_ hk_ hkp; have hzgb1_0_12 : w12.cell? ⟨gb1, 0, none⟩ = some (.slice none 0 0) := (aC BK1.out 0).trans rfl; have hygb1_0_12 := aA BK1.out 0; have hzgb1_1_12 : w12.cell? ⟨gb1, 1, none⟩ = some (.slice none 0 0) := (aC BK1.out 1).trans rfl; have hygb1_1_12 := aA BK1.out 1; have hzgb1_2_12 : w12.cell? ⟨gb1, 2, none⟩ = some (.int .i64 0) := (aC BK1.out 2).trans rfl; have hygb1_2_12 := aA BK1.out 2; have hzgb1_3_12 : w12.cell? ⟨gb1, 3, none⟩ = some (.bool false) := (aC BK1.out 3).trans rfl; have hygb1_3_12 := aA BK1.out 3; have hzgb4_0_12 : w12.cell? ⟨gb4, 0, none⟩ = some (.slice A0 s.length c0_0) := (aC BK4.out 0).trans rfl; have hygb4_0_12 := aA BK4.out 0; have hzgb4_1_12 : w12.cell? ⟨gb4, 1, none⟩ = some (.slice A1_ c.length c0_1) := (aC BK4.out 1).trans rfl; have hygb4_1_12 := aA BK4.out 1; have hzgb4_2_12 : w12.cell? ⟨gb4, 2, none⟩ = some (.int .i64 f) := (aC BK4.out 2).trans rfl; have hygb4_2_12 := aA BK4.out 2; have hzgb4_3_12 : w12.cell? ⟨gb4, 3, none⟩ = some (.bool d) := (aC BK4.out 3).trans rfl; have hygb4_3_12 := aA BK4.out 3) | ((with_reducible refine aY (f := 65) rfl ?_); refine bL (some 26) rfl rfl Try.func65 (by kernel_rfl) rfl #[.pointer (some ⟨g, 0, none⟩), .int .i64 m2] rfl (by (try simp only [List.map_toArray, List.map_cons, List.map_nil]); first | done | rfl | (simp only [List.length_drop, List.length_take]; rfl)) ?_; (with_reducible refine (spec_l1Bytes.calls k1 g x0 e3 e4 m2 yy e5 e6 w _ HI.out HB.out B4.out).mono ?_); rintro e_ w13 ⟨v0_, rfl, ho_, hi_, hbn_, hk_⟩; refine ⟨_, rfl, ?_⟩; have hkp := kept_keep hk_; obtain ⟨lo13, el_⟩ : ∃ n_, n_ = w12.heap.size := ⟨_, rfl⟩; obtain ⟨hi13, eh_⟩ : ∃ n_, n_ = w13.heap.size := ⟨_, rfl⟩; have ol_ : top2 ≤ lo13 := (by rw [el_]; exact HT.out); have oh_ : lo13 ≤ hi13 := (by rw [el_, eh_]; exact hkp.1); rw [← el_] at ho_; obtain ⟨A13, c13, ev_, hc_, hf_, hs_⟩ := Mem.new_R ho_ eh_; subst ev_; have n0_ := aD.mk (Kd.N_kept HN0.out hkp (fun k_ h1_ h2_ => by have o_ := HORD.out; have t_ := HT.out; (try simp only [In2, Up, In, Ex, Exb] at h1_ h2_); omega)); have n1_ := aD.mk (Kd.N_kept HN1.out hkp (fun k_ h1_ h2_ => by have o_ := HORD.out; have t_ := HT.out; (try simp only [In2, Up, In, Ex, Exb] at h1_ h2_); omega)); have n2_ := aD.mk (HKP.out.then_ hkp (fun k_ h_ => by have o_ := HORD.out; have t_ := HT.out; (try simp only [In2, Up, In, Ex, Exb] at h_ ⊢); omega)); have n3_ := aD.mk (aV BK1.out hkp (fun h2_ => by have o_ := HORD.out; have t_ := HT.out; (try simp only [In2, Up, In, Ex, Exb] at h2_); omega)); have n4_ := aD.mk (aV BK4.out hkp (fun h2_ => by have o_ := HORD.out; have t_ := HT.out; (try simp only [In2, Up, In, Ex, Exb] at h2_); omega)); have n5_ := aD.mk (hbn_); have n6_ := aD.mk (hi_); have n7_ := aD.mk (And.intro HORD.out (And.intro ol_ oh_)); have n8_ := aD.mk (Nat.le_of_eq eh_); have n9_ := aD.mk (hf_); have n10_ := aD.mk (hc_); have n11_ := aD.mk (hs_); (try clear HN0); (try clear HN1); (try clear HKP); (try clear BK1); (try clear BK4); (try clear HB); (try clear HI); (try clear HORD); (try clear HT); (try clear HF13); (try clear HC13); (try clear HS13); have HN0 := n0_; have HN1 := n1_; have HKP := n2_; have BK1 := n3_; have BK4 := n4_; have HB := n5_; have HI := n6_; have HORD := n7_; have HT := n8_; have HF13 := n9_; have HC13 := n10_; have HS13 := n11_; clear n0_ n1_ n2_ n3_ n4_ n5_ n6_ n7_ n8_ n9_ n10_ n11_; clear hi_ hbn_ hk_ hkp ho_ ol_ oh_ el_ eh_ hc_ hf_ hs_; have hzgb1_0_13 : w13.cell? ⟨gb1, 0, none⟩ = some (.slice none 0 0) := (aC BK1.out 0).trans rfl; have hygb1_0_13 := aA BK1.out 0; have hzgb1_1_13 : w13.cell? ⟨gb1, 1, none⟩ = some (.slice none 0 0) := (aC BK1.out 1).trans rfl; have hygb1_1_13 := aA BK1.out 1; have hzgb1_2_13 : w13.cell? ⟨gb1, 2, none⟩ = some (.int .i64 0) := (aC BK1.out 2).trans rfl; have hygb1_2_13 := aA BK1.out 2; have hzgb1_3_13 : w13.cell? ⟨gb1, 3, none⟩ = some (.bool false) := (aC BK1.out 3).trans rfl; have hygb1_3_13 := aA BK1.out 3; have hzgb4_0_13 : w13.cell? ⟨gb4, 0, none⟩ = some (.slice A0 s.length c0_0) := (aC BK4.out 0).trans rfl; have hygb4_0_13 := aA BK4.out 0; have hzgb4_1_13 : w13.cell? ⟨gb4, 1, none⟩ = some (.slice A1_ c.length c0_1) := (aC BK4.out 1).trans rfl; have hygb4_1_13 := aA BK4.out 1; have hzgb4_2_13 : w13.cell? ⟨gb4, 2, none⟩ = some (.int .i64 f) := (aC BK4.out 2).trans rfl; have hygb4_2_13 := aA BK4.out 2; have hzgb4_3_13 : w13.cell? ⟨gb4, 3, none⟩ = some (.bool d) := (aC BK4.out 3).trans rfl; have hygb4_3_13 := aA BK4.out 3) | ((with_reducible refine aY (f := 57) rfl ?_); refine bL (some 27) rfl rfl Try.func57 (by kernel_rfl) rfl #[.pointer (some ⟨gb4, 0, none⟩), .int .i64 m1, .slice A13 yy.length c13] rfl (by (try simp only [List.map_toArray, List.map_cons, List.map_nil]); first | done | rfl | (simp only [List.length_drop, List.length_take]; rfl)) ?_; (with_reducible refine (spec_l2WriteS.calls _ _ s _ _ c f d (m1) _ _ yy w _ gb4 HB.out BK4.out lo3 gS gC ?s1 ?s2 ?s3 ?s4 HGC.out HGS.out ?s5 ?s6 ?s7 HC13.out).mono ?_); (case s1 => exact (by have o_ := HORD.out; have t_ := HT.out; omega)); (case s2 => exact (by have o_ := HORD.out; have t_ := HT.out; omega)); (case s3 => exact (by have o_ := HORD.out; have t_ := HT.out; omega)); (case s4 => exact (by have o_ := HORD.out; have t_ := HT.out; omega)); (case s5 => exact Kd.bR HN0.out (fun k_ hk_ => by have o_ := HORD.out; (try simp only [In2, Up, In, Ex, Exb] at hk_ ⊢); omega)); (case s6 => exact Kd.bR HN1.out (fun k_ hk_ => by have o_ := HORD.out; (try simp only [In2, Up, In, Ex, Exb] at hk_ ⊢); omega)); (case s7 => exact Kd.F_mono HF13.out (fun k_ hk_ => by have o_ := HORD.out; (try simp only [In2, Up, In, Ex, Exb] at hk_ ⊢); omega)); rintro e_ w14 ⟨rfl, hwp_⟩; refine ⟨_, rfl, ?_⟩; unfold WrPost at hwp_; obtain ⟨u1_, gn14, hbk_, hgn_, hgl_, hm0_, hm1_, hbn_, hkp⟩ := hwp_; obtain ⟨hi14, e2_⟩ : ∃ n_, n_ = w14.heap.size := ⟨_, rfl⟩; have ol_ : hi13 ≤ hi14 := (by rw [e2_]; exact Nat.le_trans HT.out hkp.1); rw [← e2_] at hgl_; have n0_ := aD.mk (IsS85.kept HI.out hkp (fun h2_ => by have o_ := HORD.out; have t_ := HT.out; (try simp only [In2, Up, In, Ex, Exb] at h2_); omega)); have n1_ := aD.mk (HKP.out.then_ hkp (fun k_ h_ => by have o_ := HORD.out; have t_ := HT.out; (try simp only [In2, Up, In, Ex, Exb] at h_ ⊢); omega)); have n2_ := aD.mk (aV BK1.out hkp (fun h2_ => by have o_ := HORD.out; have t_ := HT.out; (try simp only [In2, Up, In, Ex, Exb] at h2_); omega)); have n3_ := aD.mk (hbn_); have n4_ := aD.mk (hbk_); have n5_ := aD.mk (And.intro HORD.out (And.intro ol_ hgl_)); have n6_ := aD.mk (Nat.le_of_eq e2_); have n7_ := aD.mk (hm0_); have n8_ := aD.mk (hm1_); have n9_ := aD.mk (hgn_); (try clear HI); (try clear HKP); (try clear BK1); (try clear HB); (try clear BK4); (try clear HORD); (try clear HT); (try clear HM14); (try clear HN14); (try clear HMC14); have HI := n0_; have HKP := n1_; have BK1 := n2_; have HB := n3_; have BK4 := n4_; have HORD := n5_; have HT := n6_; have HM14 := n7_; have HN14 := n8_; have HMC14 := n9_; clear n0_ n1_ n2_ n3_ n4_ n5_ n6_ n7_ n8_ n9_; have hzgb1_0_14 : w14.cell? ⟨gb1, 0, none⟩ = some (.slice none 0 0) := (aC BK1.out 0).trans rfl; have hygb1_0_14 := aA BK1.out 0; have hzgb1_1_14 : w14.cell? ⟨gb1, 1, none⟩ = some (.slice none 0 0) := (aC BK1.out 1).trans rfl; have hygb1_1_14 := aA BK1.out 1; have hzgb1_2_14 : w14.cell? ⟨gb1, 2, none⟩ = some (.int .i64 0) := (aC BK1.out 2).trans rfl; have hygb1_2_14 := aA BK1.out 2; have hzgb1_3_14 : w14.cell? ⟨gb1, 3, none⟩ = some (.bool false) := (aC BK1.out 3).trans rfl; have hygb1_3_14 := aA BK1.out 3; have hzgb4_0_14 : w14.cell? ⟨gb4, 0, none⟩ = some (.slice A0 s.length c0_0) := (aC BK4.out 0).trans rfl; have hygb4_0_14 := aA BK4.out 0; have hzgb4_1_14 : w14.cell? ⟨gb4, 1, none⟩ = some (u1_) := (aC BK4.out 1).trans rfl; have hygb4_1_14 := aA BK4.out 1; have hzgb4_2_14 : w14.cell? ⟨gb4, 2, none⟩ = some (.int .i64 ((wrote s c f d m1 yy).2.1)) := (aC BK4.out 2).trans rfl; have hygb4_2_14 := aA BK4.out 2; have hzgb4_3_14 : w14.cell? ⟨gb4, 3, none⟩ = some (.bool ((wrote s c f d m1 yy).2.2)) := (aC BK4.out 3).trans rfl; have hygb4_3_14 := aA BK4.out 3))
  go_roundg k1
  case measure => omega
  case rel => exact ⟨_, _, _, _, _, _, _, _, _, gS, gn14, rfl, H2, ⟨Nat.le_trans (by have o_ := HORD.out; omega) HT.out⟩, ⟨by have o_ := HORD.out; have t_ := HT.out; omega⟩, ⟨fun k_ hk_ => HGS.out k_ hk_⟩, ⟨fun k_ hk_ => HMC14.out k_ hk_⟩, HM14, HN14, HI, BK1, BK4, HB, HKP, ⟨by have := HKK.out; omega⟩⟩
 ·have hd_ : decide (0 < i) = true := decide_eq_true hi
  rw [if_pos rfl] at h
  by_cases hfo : flOk s c = true
  rotate_left
  ·rw [if_neg hfo] at h; exact absurd h (by simp)
  rw [if_pos hfo] at h
  have HFO := aD.mk hfo
  clear hfo
  (try dsimp only at h)
  have H2 := aD.mk h
  clear h hi HH
  have hzgb1_0_7 : wr.cell? ⟨gb1, 0, none⟩ = some (.slice none 0 0) := (aC BK1.out 0).trans rfl
  have hygb1_0_7 := aA BK1.out 0
  have hzgb1_1_7 : wr.cell? ⟨gb1, 1, none⟩ = some (.slice none 0 0) := (aC BK1.out 1).trans rfl
  have hygb1_1_7 := aA BK1.out 1
  have hzgb1_2_7 : wr.cell? ⟨gb1, 2, none⟩ = some (.int .i64 0) := (aC BK1.out 2).trans rfl
  have hygb1_2_7 := aA BK1.out 2
  have hzgb1_3_7 : wr.cell? ⟨gb1, 3, none⟩ = some (.bool false) := (aC BK1.out 3).trans rfl
  have hygb1_3_7 := aA BK1.out 3
  have hzgb4_0_7 : wr.cell? ⟨gb4, 0, none⟩ = some (.slice A0 s.length c0_0) := (aC BK4.out 0).trans rfl
  have hygb4_0_7 := aA BK4.out 0
  have hzgb4_1_7 : wr.cell? ⟨gb4, 1, none⟩ = some (.slice A1_ c.length c0_1) := (aC BK4.out 1).trans rfl
  have hygb4_1_7 := aA BK4.out 1
  have hzgb4_2_7 : wr.cell? ⟨gb4, 2, none⟩ = some (.int .i64 f) := (aC BK4.out 2).trans rfl
  have hygb4_2_7 := aA BK4.out 2
  have hzgb4_3_7 : wr.cell? ⟨gb4, 3, none⟩ = some (.bool d) := (aC BK4.out 3).trans rfl
  have hygb4_3_7 := aA BK4.out 3
  go_wp2_with (first | ((with_reducible refine aY (f := 67) rfl ?_); refine bL (some 16) rfl rfl Try.func67 (by kernel_rfl) rfl #[.pointer (some ⟨g, 0, none⟩), .int .i64 4] rfl (by (try simp only [List.map_toArray, List.map_cons, List.map_nil]); first | done | rfl | (simp only [List.length_drop, List.length_take]; rfl)) ?_; (with_reducible refine (spec_l1Once.calls g x0 p1 p2 4 true t1 t2 w _ HI.out HB.out B1.out).mono ?_); rintro e_ w8 ⟨rfl, hi_, hbn_, hk_⟩; refine ⟨_, rfl, ?_⟩; have hkp := kept_keep hk_; have n0_ := aD.mk (Kd.N_kept HN0.out hkp (fun k_ h1_ h2_ => by have o_ := HORD.out; have t_ := HT.out; (try simp only [In2, Up, In, Ex, Exb] at h1_ h2_); omega)); have n1_ := aD.mk (Kd.N_kept HN1.out hkp (fun k_ h1_ h2_ => by have o_ := HORD.out; have t_ := HT.out; (try simp only [In2, Up, In, Ex, Exb] at h1_ h2_); omega)); have n2_ := aD.mk (HKP.out.then_ hkp (fun k_ h_ => by have o_ := HORD.out; have t_ := HT.out; (try simp only [In2, Up, In, Ex, Exb] at h_ ⊢); omega)); have n3_ := aD.mk (aV BK1.out hkp (fun h2_ => by have o_ := HORD.out; have t_ := HT.out; (try simp only [In2, Up, In, Ex, Exb] at h2_); omega)); have n4_ := aD.mk (aV BK4.out hkp (fun h2_ => by have o_ := HORD.out; have t_ := HT.out; (try simp only [In2, Up, In, Ex, Exb] at h2_); omega)); have n5_ := aD.mk (hbn_); have n6_ := aD.mk (hi_); have n7_ := aD.mk (Nat.le_trans HT.out hkp.1); (try clear HN0); (try clear HN1); (try clear HKP); (try clear BK1); (try clear BK4); (try clear HB); (try clear HI); (try clear HT); have HN0 := n0_; have HN1 := n1_; have HKP := n2_; have BK1 := n3_; have BK4 := n4_; have HB := n5_; have HI := n6_; have HT := n7_; clear n0_ n1_ n2_ n3_ n4_ n5_ n6_ n7_; clear hi_ hbn_ hk_ hkp; have hzgb1_0_8 : w8.cell? ⟨gb1, 0, none⟩ = some (.slice none 0 0) := (aC BK1.out 0).trans rfl; have hygb1_0_8 := aA BK1.out 0; have hzgb1_1_8 : w8.cell? ⟨gb1, 1, none⟩ = some (.slice none 0 0) := (aC BK1.out 1).trans rfl; have hygb1_1_8 := aA BK1.out 1; have hzgb1_2_8 : w8.cell? ⟨gb1, 2, none⟩ = some (.int .i64 0) := (aC BK1.out 2).trans rfl; have hygb1_2_8 := aA BK1.out 2; have hzgb1_3_8 : w8.cell? ⟨gb1, 3, none⟩ = some (.bool false) := (aC BK1.out 3).trans rfl; have hygb1_3_8 := aA BK1.out 3; have hzgb4_0_8 : w8.cell? ⟨gb4, 0, none⟩ = some (.slice A0 s.length c0_0) := (aC BK4.out 0).trans rfl; have hygb4_0_8 := aA BK4.out 0; have hzgb4_1_8 : w8.cell? ⟨gb4, 1, none⟩ = some (.slice A1_ c.length c0_1) := (aC BK4.out 1).trans rfl; have hygb4_1_8 := aA BK4.out 1; have hzgb4_2_8 : w8.cell? ⟨gb4, 2, none⟩ = some (.int .i64 f) := (aC BK4.out 2).trans rfl; have hygb4_2_8 := aA BK4.out 2; have hzgb4_3_8 : w8.cell? ⟨gb4, 3, none⟩ = some (.bool d) := (aC BK4.out 3).trans rfl; have hygb4_3_8 := aA BK4.out 3) | ((with_reducible refine aY (f := 60) rfl ?_); refine bL (some 17) rfl rfl Try.func60 (by kernel_rfl) rfl #[.pointer (some ⟨gb4, 0, none⟩)] rfl (by (try simp only [List.map_toArray, List.map_cons, List.map_nil]); first | done | rfl | (simp only [List.length_drop, List.length_take]; rfl)) ?_; (with_reducible refine (spec_l2FlushS.calls _ _ s _ _ c f d w _ gb4 HB.out BK4.out lo3 gS gC ?s1 ?s2 ?s3 ?s4 HGC.out HGS.out ?s5 ?s6 (flOk_len HFO.out) (fun i_ hx_ hi_ => flOk_at HFO.out i_ hx_ hi_)).mono ?_); (case s1 => exact (by have o_ := HORD.out; have t_ := HT.out; omega)); (case s2 => exact (by have o_ := HORD.out; have t_ := HT.out; omega)); (case s3 => exact (by have o_ := HORD.out; have t_ := HT.out; omega)); (case s4 => exact (by have o_ := HORD.out; have t_ := HT.out; omega)); (case s5 => exact Kd.bR HN0.out (fun k_ hk_ => by have o_ := HORD.out; (try simp only [In2, Up, In, Ex, Exb] at hk_ ⊢); omega)); (case s6 => exact Kd.bR HN1.out (fun k_ hk_ => by have o_ := HORD.out; (try simp only [In2, Up, In, Ex, Exb] at hk_ ⊢); omega)); rintro e_ w9 ⟨rfl, hwp_⟩; refine ⟨_, rfl, ?_⟩; unfold FlPost at hwp_; obtain ⟨u0_, u1_, gn9, hbk_, hgn_, hgl_, hme_, hm0_, hm1_, hbn_, hkp⟩ := hwp_; obtain ⟨hi9, e2_⟩ : ∃ n_, n_ = w9.heap.size := ⟨_, rfl⟩; have ol_ : top2 ≤ hi9 := (by rw [e2_]; exact Nat.le_trans HT.out hkp.1); rw [← e2_] at hgl_; have n0_ := aD.mk (IsS85.kept HI.out hkp (fun h2_ => by have o_ := HORD.out; have t_ := HT.out; (try simp only [In2, Up, In, Ex, Exb] at h2_); omega)); have n1_ := aD.mk (HKP.out.then_ hkp (fun k_ h_ => by have o_ := HORD.out; have t_ := HT.out; (try simp only [In2, Up, In, Ex, Exb] at h_ ⊢); omega)); have n2_ := aD.mk (aV BK1.out hkp (fun h2_ => by have o_ := HORD.out; have t_ := HT.out; (try simp only [In2, Up, In, Ex, Exb] at h2_); omega)); have n3_ := aD.mk (hbn_); have n4_ := aD.mk (hbk_); have n5_ := aD.mk (And.intro HORD.out (And.intro ol_ hgl_)); have n6_ := aD.mk (Nat.le_of_eq e2_); have n7_ := aD.mk (hm0_); have n8_ := aD.mk (hm1_); have n9_ := aD.mk (hgn_); have n10_ := aD.mk (hme_); (try clear HI); (try clear HKP); (try clear BK1); (try clear HB); (try clear BK4); (try clear HORD); (try clear HT); (try clear HM9); (try clear HN9); (try clear HMC9); (try clear HMS9); have HI := n0_; have HKP := n1_; have BK1 := n2_; have HB := n3_; have BK4 := n4_; have HORD := n5_; have HT := n6_; have HM9 := n7_; have HN9 := n8_; have HMC9 := n9_; have HMS9 := n10_; clear n0_ n1_ n2_ n3_ n4_ n5_ n6_ n7_ n8_ n9_ n10_; have hzgb1_0_9 : w9.cell? ⟨gb1, 0, none⟩ = some (.slice none 0 0) := (aC BK1.out 0).trans rfl; have hygb1_0_9 := aA BK1.out 0; have hzgb1_1_9 : w9.cell? ⟨gb1, 1, none⟩ = some (.slice none 0 0) := (aC BK1.out 1).trans rfl; have hygb1_1_9 := aA BK1.out 1; have hzgb1_2_9 : w9.cell? ⟨gb1, 2, none⟩ = some (.int .i64 0) := (aC BK1.out 2).trans rfl; have hygb1_2_9 := aA BK1.out 2; have hzgb1_3_9 : w9.cell? ⟨gb1, 3, none⟩ = some (.bool false) := (aC BK1.out 3).trans rfl; have hygb1_3_9 := aA BK1.out 3; have hzgb4_0_9 : w9.cell? ⟨gb4, 0, none⟩ = some (u0_) := (aC BK4.out 0).trans rfl; have hygb4_0_9 := aA BK4.out 0; have hzgb4_1_9 : w9.cell? ⟨gb4, 1, none⟩ = some (u1_) := (aC BK4.out 1).trans rfl; have hygb4_1_9 := aA BK4.out 1; have hzgb4_2_9 : w9.cell? ⟨gb4, 2, none⟩ = some (.int .i64 ((flushed s c f d).2.2.1)) := (aC BK4.out 2).trans rfl; have hygb4_2_9 := aA BK4.out 2; have hzgb4_3_9 : w9.cell? ⟨gb4, 3, none⟩ = some (.bool ((flushed s c f d).2.2.2)) := (aC BK4.out 3).trans rfl; have hygb4_3_9 := aA BK4.out 3))
  go_roundg k1
  case measure => omega
  case rel => exact ⟨_, _, _, _, _, _, _, _, _, gS, gn9, rfl, H2, ⟨Nat.le_trans (by have o_ := HORD.out; omega) HT.out⟩, ⟨by have o_ := HORD.out; have t_ := HT.out; omega⟩, ⟨fun k_ hk_ => HMS9.out k_ hk_⟩, ⟨fun k_ hk_ => HMC9.out k_ hk_⟩, HM9, HN9, HI, BK1, BK4, HB, HKP, ⟨by have := HKK.out; omega⟩⟩
end Go.Proofs.Ytilhcaofpfeioaa.Law

namespace Go.Proofs.Ytilhcaofpfeioaa.PFnDevs
open Go.Proofs.Ytilhcaofpfeioaa.Law Go.Proofs.Ytilhcaofpfeioaa.Core
open Go.RowKit Go.Proofs.YtilhcaofpfeioaaW.PrintWords Go.Proofs.YtilhcaofpfeioaaW.PrintLast Go.Proofs.YtilhcaofpfeioaaW.PrintMore
attribute [local go_sem] max2_int min2_int max_two min_two max_three min_three max_four min_four   -- for this text's walks alone
set_option linter.unusedVariables false
set_option linter.unusedSimpArgs false
def spec_l2Draw.f (k : Nat) (s0_0 : List Int) (s0_1 : Int) (s0_2 : Int) : Option (List (List Int) × List (S50) × Int × Bool × Int × Int) := spec_l2Draw.g k s0_0 s0_1 s0_2
theorem spec_l2Draw.calls (k : Nat) (g : Nat) (s0_0 : List Int) (s0_1 : Int) (s0_2 : Int) (r1 : List (List Int)) (r2 : List (S50)) (r3 : Int) (r4 : Bool) (r5 : Int) (r6 : Int) (w0 w : World) (hI : IsS85 w0 w g s0_0 s0_1 s0_2) (hB : Below w0.heap.size w0 w) (h : spec_l2Draw.f k s0_0 s0_1 s0_2 = some (r1, r2, r3, r4, r5, r6)) :
  Calls Try.prog 62 #[.pointer (some ⟨g, 0, none⟩)] w fun e w' => ∃ v0_ v1_ : Value, e = .returned (.agg #[v0_, v1_, .int .i64 r3, .bool r4]) ∧ Kd.N (Kd.slice 5 (Kd.int .u8)) 37 w' w.heap.size (fun k_ => (w.heap.size ≤ k_) ∧ some k_ ≠ (v1_ : Value).ownBlock) v0_ r1 ∧ Kd.N k50 50 w' w.heap.size (fun k_ => (w.heap.size ≤ k_) ∧ some k_ ≠ (v0_ : Value).ownBlock) v1_ r2 ∧ IsS85 w0 w' g s0_0 r5 r6 ∧ Below w0.heap.size w0 w' ∧ KeepBut w w' g none := by
 exact spec_l2Draw_calls k g s0_0 s0_1 s0_2 r1 r2 r3 r4 r5 r6 w0 w hI hB h
def spec_DrawDev.f (k : Nat) (l0 : List Int) : Option ((List (List Int)) × (List (S50)) × Int × Bool) := (spec_l1New.f k l0).bind fun bt212 => ((spec_l2Draw.f k bt212.1 bt212.2.1 bt212.2.2).bind fun bt216 => (some (bt216.1, bt216.2.1, bt216.2.2.1, bt216.2.2.2.1)))
set_option maxHeartbeats 8000000 in
set_option maxRecDepth 100000 in
theorem spec_DrawDev.calls (k : Nat) (A0 : Option Addr) (c0 : Nat) (l0 : List Int) (r1 : List (List Int)) (r2 : List (S50)) (r3 : Int) (r4 : Bool) (w : World) (hr0 : Kd.C (Kd.int .u8) w A0 l0.length l0) (hc0 : l0.length ≤ c0) (h : spec_DrawDev.f k l0 = some (r1, r2, r3, r4)) :
  Calls Try.prog 34 #[.slice A0 l0.length c0] w fun e w' => ∃ v0_ v1_ : Value, e = .returned (.agg #[v0_, v1_, .int .i64 r3, .bool r4]) ∧ Kd.N (Kd.slice 5 (Kd.int .u8)) 37 w' w.heap.size (fun k_ => (w.heap.size ≤ k_) ∧ some k_ ≠ (v1_ : Value).ownBlock) v0_ r1 ∧ Kd.N k50 50 w' w.heap.size (fun k_ => (w.heap.size ≤ k_) ∧ some k_ ≠ (v0_ : Value).ownBlock) v1_ r2 ∧ Below w.heap.size w w' := by
 have hu25 := Try.underlying25
 have HR0 := aD.mk hr0
 have HC0 := aD.mk hc0
 clear hr0 hc0
 have HB := aD.mk (Below.refl w.heap.size w)
 have H : ((spec_l1New.f k l0).bind fun bt212 => ((spec_l2Draw.f k bt212.1 bt212.2.1 bt212.2.2).bind fun bt216 => (some (bt216.1, bt216.2.1, bt216.2.2.1, bt216.2.2.2.1)))) = some (r1, r2, r3, r4) := h
 clear h
 replace H := lF H
 obtain ⟨⟨t212, t213, t214⟩, A20, H⟩ := H
 replace H : ((spec_l2Draw.f k t212 t213 t214).bind fun bt216 => (some (bt216.1, bt216.2.1, bt216.2.2.1, bt216.2.2.2.1))) = some (r1, r2, r3, r4) := H
 have A2 := aD.mk A20
 clear A20
 replace H := lF H
 obtain ⟨⟨t216, t219, t222, t223, t224, t225⟩, A30, H⟩ := H
 replace H : (some (t216, t219, t222, t223)) = some (r1, r2, r3, r4) := H
 have A3 := aD.mk A30
 clear A30
 simp only [Option.some.injEq, Prod.mk.injEq] at H
 obtain ⟨rfl, rfl, rfl, rfl⟩ := H
 go_enter Try.func34, Try.ntmps34
 go_wp2_with (first | ((with_reducible refine bE (N := 2) rfl ?_); refine bD ?hg (N := 2) ?hd (cs := #[.slice none 0 0, .slice none 0 0, .int .i64 0, .bool false]) (t := 25) ?hr ?_; (case hd => rfl); (case hg => rfl); (case hr => first | (go_simp; done) | (go_simp; rfl)); intro gb211 hg w4 hbox hb; have n0_ := aD.mk (aQ (by repeat (first | (with_reducible first | exact HB.out | apply aM | apply aJ | apply aN) | exact HB.out)) hb); have n1_ := aD.mk (hbox); have n2_ := aD.mk ((by rw [hg]; exact (bM (by repeat (first | (with_reducible first | exact HB.out | apply aM | apply aJ | apply aN) | exact HB.out))) : w.heap.size ≤ gb211)); have n3_ := aD.mk ((by rw [hg]; exact (bM (by repeat (first | (with_reducible first | exact HB.out | apply aM | apply aJ | apply aN) | exact HB.out))) : w.heap.size ≤ gb211)); clear HB; have HB := n0_; have BK211 := n1_; have GW211 := n2_; have GE211 := n3_; clear n0_ n1_ n2_ n3_; clear hb hbox hg) | ((with_reducible refine aY (f := 61) rfl ?_); refine bL (some 5) rfl rfl Try.func61 (by kernel_rfl) rfl #[.slice A0 l0.length c0] rfl (by (try simp only [List.map_toArray, List.map_cons, List.map_nil]); first | done | rfl | (simp only [List.length_drop, List.length_take]; rfl)) ?_; (with_reducible refine (spec_l1New.calls k _ _ l0 t212 t213 t214 w _ ?side1 ?side2 ?side3 A2.out).mono ?_); (case side1 => repeat (first | (with_reducible first | exact HB.out | apply aM | apply aJ | apply aN | refine aG ?_ GE211.out) | exact HB.out)); (case side2 => exact HR0.out); (case side3 => exact HC0.out); rintro e w5 ⟨g215, rfl, hi, hb, hb2⟩; refine ⟨_, rfl, ?_⟩; have n0_ := aD.mk (aH (g := gb211) (o := .cells #[.slice none 0 0, .slice none 0 0, .int .i64 0, .bool false] 25 (0, 0)) (by (with_reducible repeat (first | refine bB ?_ _ | refine bA ?_ | refine aZ ?_ _)); exact BK211.out) hb2); have n1_ := aD.mk (hb); have n2_ := aD.mk (hi); have n3_ := aD.mk (IsS85.ne_blk hi (aH (g := gb211) (o := .cells #[.slice none 0 0, .slice none 0 0, .int .i64 0, .bool false] 25 (0, 0)) (by (with_reducible repeat (first | refine bB ?_ _ | refine bA ?_ | refine aZ ?_ _)); exact BK211.out) hb2) (by decide)); have n4_ := aD.mk (Ne.symm (IsS85.ne_blk hi (aH (g := gb211) (o := .cells #[.slice none 0 0, .slice none 0 0, .int .i64 0, .bool false] 25 (0, 0)) (by (with_reducible repeat (first | refine bB ?_ _ | refine bA ?_ | refine aZ ?_ _)); exact BK211.out) hb2) (by decide))); clear BK211; clear HB; have BK211 := n0_; have HB := n1_; have HI215 := n2_; have NB215_211 := n3_; have NB211_215 := n4_; clear n0_ n1_ n2_ n3_ n4_; (try clear hb); (try clear hb2); (try clear hk); (try clear hi)) | ((with_reducible refine aY (f := 62) rfl ?_); refine bL (some 7) rfl rfl Try.func62 (by kernel_rfl) rfl #[.pointer (some ⟨g215, 0, none⟩)] rfl (by (try simp only [List.map_toArray, List.map_cons, List.map_nil]); first | done | rfl | (simp only [List.length_drop, List.length_take]; rfl)) ?_; (with_reducible refine (spec_l2Draw.calls k g215 t212 t213 t214 t216 t219 t222 t223 t224 t225 w _ ?side1 ?side2 A3.out).mono ?_); (case side1 => repeat (first | (with_reducible first | exact HI215.out | apply IsS85.alloc | apply IsS85.drewN | apply IsS85.drew | apply IsS85.set_1 | apply IsS85.set_2 | apply IsS85.far (hne := NB215_211.out)) | exact HI215.out)); (case side2 => repeat (first | (with_reducible first | exact HB.out | apply aM | apply aJ | apply aN | refine aG ?_ (IsS85.ge HI215.out) | refine aG ?_ GE211.out) | exact HB.out)); rintro e w6 ⟨v217, v220, rfl, ho0, ho1, hi, hb, hk⟩; refine ⟨_, rfl, ?_⟩; have n0_ := aD.mk (KeepBut.blk hk (g' := gb211) (o := .cells #[.slice none 0 0, .slice none 0 0, .int .i64 0, .bool false] 25 (0, 0)) (by (with_reducible repeat (first | refine bB ?_ _ | refine bA ?_ | refine aZ ?_ _)); exact BK211.out) NB211_215.out (by simp)); have n1_ := aD.mk (Kd.N_lower (Kd.bR (ok' := fun k_ => (w.heap.size ≤ k_) ∧ some k_ ≠ (v220 : Value).ownBlock ∧ k_ ≠ gb211 ∧ k_ ≠ g215) ho0 (fun k_ hk_ => ⟨(Nat.le_trans (bM (by repeat (first | (with_reducible first | exact HB.out | apply aM | apply aJ | apply aN | refine aG ?_ (IsS85.ge HI215.out) | refine aG ?_ GE211.out) | exact HB.out))) hk_.1), hk_.2, (Kd.freshB (g := gb211) (o := .cells #[.slice none 0 0, .slice none 0 0, .int .i64 0, .bool false] 25 (0, 0)) (by (with_reducible repeat (first | refine bB ?_ _ | refine bA ?_ | refine aZ ?_ _)); exact BK211.out) k_ hk_.1), (IsS85.fresh (by repeat (first | (with_reducible first | exact HI215.out | apply IsS85.alloc | apply IsS85.drewN | apply IsS85.drew | apply IsS85.set_1 | apply IsS85.set_2 | apply IsS85.far (hne := NB215_211.out)) | exact HI215.out)) k_ hk_.1)⟩)) (bM (by repeat (first | (with_reducible first | exact HB.out | apply aM | apply aJ | apply aN | refine aG ?_ (IsS85.ge HI215.out) | refine aG ?_ GE211.out) | exact HB.out)))); have n2_ := aD.mk (Kd.N_lower (Kd.bR (ok' := fun k_ => (w.heap.size ≤ k_) ∧ some k_ ≠ (v217 : Value).ownBlock ∧ k_ ≠ gb211 ∧ k_ ≠ g215) ho1 (fun k_ hk_ => ⟨(Nat.le_trans (bM (by repeat (first | (with_reducible first | exact HB.out | apply aM | apply aJ | apply aN | refine aG ?_ (IsS85.ge HI215.out) | refine aG ?_ GE211.out) | exact HB.out))) hk_.1), hk_.2, (Kd.freshB (g := gb211) (o := .cells #[.slice none 0 0, .slice none 0 0, .int .i64 0, .bool false] 25 (0, 0)) (by (with_reducible repeat (first | refine bB ?_ _ | refine bA ?_ | refine aZ ?_ _)); exact BK211.out) k_ hk_.1), (IsS85.fresh (by repeat (first | (with_reducible first | exact HI215.out | apply IsS85.alloc | apply IsS85.drewN | apply IsS85.drew | apply IsS85.set_1 | apply IsS85.set_2 | apply IsS85.far (hne := NB215_211.out)) | exact HI215.out)) k_ hk_.1)⟩)) (bM (by repeat (first | (with_reducible first | exact HB.out | apply aM | apply aJ | apply aN | refine aG ?_ (IsS85.ge HI215.out) | refine aG ?_ GE211.out) | exact HB.out)))); have n3_ := aD.mk (hb); have n4_ := aD.mk (hi); clear BK211; clear HB; clear HI215; have BK211 := n0_; have HO218 := n1_; have HO221 := n2_; have HB := n3_; have HI215 := n4_; clear n0_ n1_ n2_ n3_ n4_; (try clear hb); (try clear hb2); (try clear hk); (try clear hi); (try clear ho0); (try clear ho1); obtain ⟨Ao7, co7, eo7⟩ := Kd.N_slice HO218.out; subst eo7; have hnb8 := NB211_215.out; have hnc8 := NB215_211.out; have hcz9_0 : w6.cell? ⟨gb211, 0, none⟩ = some (.slice none 0 0) := (aC BK211.out 0).trans rfl; have hcz9_1 : w6.cell? ⟨gb211, 1, none⟩ = some (.slice none 0 0) := (aC BK211.out 1).trans rfl; have hcz9_2 : w6.cell? ⟨gb211, 2, none⟩ = some (.int .i64 0) := (aC BK211.out 2).trans rfl; have hcz9_3 : w6.cell? ⟨gb211, 3, none⟩ = some (.bool false) := (aC BK211.out 3).trans rfl; have hfz9_0 := aA BK211.out 0; have hfz9_1 := aA BK211.out 1; have hfz9_2 := aA BK211.out 2; have hfz9_3 := aA BK211.out 3; obtain ⟨Ao10, co10, eo10⟩ := Kd.N_slice HO221.out; subst eo10))
 refine bodyPost_ret (results_cell_row rfl _ _ gb211 25 #[.slice Ao7 t216.length co7, .slice Ao10 t219.length co10, .int .i64 t222, .bool t223] (0, 0) _ rfl (by (with_reducible repeat (first | refine bB ?_ _ | refine bA ?_ | refine aZ ?_ _)); refine aT (cs := #[.slice Ao7 t216.length co7, .slice Ao10 t219.length co10, .int .i64 t222, .bool false]) ?_ 3 _ rfl; (with_reducible repeat (first | refine bB ?_ _ | refine bA ?_ | refine aZ ?_ _)); refine aT (cs := #[.slice Ao7 t216.length co7, .slice Ao10 t219.length co10, .int .i64 0, .bool false]) ?_ 2 _ rfl; (with_reducible repeat (first | refine bB ?_ _ | refine bA ?_ | refine aZ ?_ _)); refine aT (cs := #[.slice Ao7 t216.length co7, .slice none 0 0, .int .i64 0, .bool false]) ?_ 1 _ rfl; (with_reducible repeat (first | refine bB ?_ _ | refine bA ?_ | refine aZ ?_ _)); refine aT (cs := #[.slice none 0 0, .slice none 0 0, .int .i64 0, .bool false]) ?_ 0 _ rfl; (with_reducible repeat (first | refine bB ?_ _ | refine bA ?_ | refine aZ ?_ _)); exact BK211.out) Try.underlying25 rfl (by kernel_rfl)) rfl ?_
 exact ⟨_, _, by first | rfl | (simp [errW_none, errW_some] <;> rfl) | (simp [*, errW_none, errW_some] <;> rfl), by (with_reducible repeat (first | apply Kd.N_alloc | apply Kd.N_drewN | apply Kd.N_drew)); exact Kd.bR (Kd.N_far (p := ⟨gb211, 3, none⟩) (Kd.N_far (p := ⟨gb211, 2, none⟩) (Kd.N_far (p := ⟨gb211, 1, none⟩) (Kd.N_far (p := ⟨gb211, 0, none⟩) (Kd.bR HO218.out (fun k_ hk => (⟨hk, hk.2.2.1⟩ : _ ∧ k_ ≠ gb211))) (fun _ hk => hk.2) (.slice Ao7 t216.length co7)) (fun _ hk => hk.2) (.slice Ao10 t219.length co10)) (fun _ hk => hk.2) (.int .i64 t222)) (fun _ hk => hk.2) (.bool t223)) (fun _ hk => ⟨hk.1.1, hk.1.2.1⟩), by (with_reducible repeat (first | apply Kd.N_alloc | apply Kd.N_drewN | apply Kd.N_drew)); exact Kd.bR (Kd.N_far (p := ⟨gb211, 3, none⟩) (Kd.N_far (p := ⟨gb211, 2, none⟩) (Kd.N_far (p := ⟨gb211, 1, none⟩) (Kd.N_far (p := ⟨gb211, 0, none⟩) (Kd.bR HO221.out (fun k_ hk => (⟨hk, hk.2.2.1⟩ : _ ∧ k_ ≠ gb211))) (fun _ hk => hk.2) (.slice Ao7 t216.length co7)) (fun _ hk => hk.2) (.slice Ao10 t219.length co10)) (fun _ hk => hk.2) (.int .i64 t222)) (fun _ hk => hk.2) (.bool t223)) (fun _ hk => ⟨hk.1.1, hk.1.2.1⟩), by repeat (first | (with_reducible first | exact HB.out | apply aM | apply aJ | apply aN | refine aG ?_ (IsS85.ge HI215.out) | refine aG ?_ GE211.out) | exact HB.out)⟩
end Go.Proofs.Ytilhcaofpfeioaa.PFnDevs

namespace Go.Proofs.Ytilhcaofpfeioaa.PFnDevs
open Go.RowKit Go.Proofs.YtilhcaofpfeioaaW.PrintWords Go.Proofs.YtilhcaofpfeioaaW.PrintLast Go.Proofs.YtilhcaofpfeioaaW.PrintMore
attribute [local go_sem] max2_int min2_int max_two min_two max_three min_three max_four min_four   -- for this text's walks alone
set_option linter.unusedVariables false
set_option linter.unusedSimpArgs false
def laws_at.f (l0 : List Int) (a1 : Int) : Option (Int) := if a1 < (l0.length : Int) then (if 0 ≤ a1 then (some (wrap64 (rd l0 a1))) else (none)) else (some (Int.tmod (wrap64 ((wrap64 (a1 * 31)) + (wrap64 ((l0.length : Int) * 7)))) 256))
set_option maxHeartbeats 8000000 in
set_option maxRecDepth 100000 in
theorem laws_at.calls (A0 : Option Addr) (c0 : Nat) (l0 : List Int) (a1 : Int) (r : Int) (w : World) (hr0 : Kd.C (Kd.int .u8) w A0 l0.length l0) (hc0 : l0.length ≤ c0) (h : laws_at.f l0 a1 = some r) :
  Calls Try.prog 35 #[.slice A0 l0.length c0, .int .i64 a1] w fun e w' => e = .returned (.int .i64 r) ∧ Drawn0 w w' := by
 have HR0 := aD.mk hr0
 have HC0 := aD.mk hc0
 clear hr0 hc0
 have H : (if a1 < (l0.length : Int) then (if 0 ≤ a1 then (some (wrap64 (rd l0 a1))) else (none)) else (some (Int.tmod (wrap64 ((wrap64 (a1 * 31)) + (wrap64 ((l0.length : Int) * 7)))) 256))) = some r := h
 clear h
 by_cases c3 : a1 < (l0.length : Int)
 ·rw [if_pos c3] at H
  have c3b0 : decide (a1 < (l0.length : Int)) = true := decide_eq_true c3
  clear c3
  by_cases c4 : 0 ≤ a1
  ·rw [if_pos c4] at H
   have c4b0 : decide (0 ≤ a1) = true := decide_eq_true c4
   clear c4
   obtain rfl := Option.some.inj H
   have p226 : 0 ≤ (a1 : Int) := lE (by first | (with_reducible assumption) | assumption)
   have q226 : a1 < (l0.length : Int) := lE (by first | (with_reducible assumption) | assumption)
   obtain ⟨ad226, e226, hx226_0⟩ := Kd.at_int HR0.out a1 p226 q226
   cases e226
   replace p226 := eq_true p226
   replace q226 := eq_true q226
   go_enter Try.func35, Try.ntmps35
   go_wp2
   go_ret
   exact ⟨by first | rfl | (simp; done) | (simp [*]; done), by repeat (first | exact Drawn0.refl _ | apply Drawn0.step)⟩
  ·rw [if_neg c4] at H
   exact absurd H (by simp)
 ·rw [if_neg c3] at H
  have c3b0 : decide (a1 < (l0.length : Int)) = false := decide_eq_false c3
  clear c3
  obtain rfl := Option.some.inj H
  go_enter Try.func35, Try.ntmps35
  go_wp2
  go_ret
  exact ⟨by first | rfl | (simp; done) | (simp [*]; done), by repeat (first | exact Drawn0.refl _ | apply Drawn0.step)⟩
-- NOT PRINTED: function 9 (laws_FnDevs)
end Go.Proofs.Ytilhcaofpfeioaa.PFnDevs

namespace Go.Proofs.Ytilhcaofpfeioaa.Pure
open Go.Proofs.Ytilhcaofpfeioaa.Law
open Go.RowKit Go.Proofs.Ytilhcaofpfeioaa.PFnDevs Go.Proofs.Ytilhcaofpfeioaa.Core Go.Proofs.YtilhcaofpfeioaaW.PrintWords Go.Proofs.YtilhcaofpfeioaaW.PrintLast
set_option linter.unusedSimpArgs false
set_option linter.unusedVariables false
def pickB (c : List S50) (n : Int) (b : List Int) : Nat → List Int
 | 0 => b
 | i + 1 => if (c.getD i z50).f0 = n then (c.getD i z50).f1 else pickB c n b i
def readSec (s : List (List Int)) (c : List S50) (f : Int) (n : Int) : List Int := if devOkB s c f = true ∧ 0 ≤ n ∧ n ≤ (s.length : Int) - 1 then pickB c n (s.getD n.toNat []) c.length else []
theorem getD_len {s : List (List Int)} (h : okByteSS s) (i : Nat) : (s.getD i []).length ≤ 4194304 := by
 by_cases c : i < s.length
 ·exact okByteSS_at h i c
 ·rw [List.getD_eq_getElem?_getD, List.getElem?_eq_none (by omega)]; simp
theorem impl_ReadSec_l0 (s : List (List Int)) (c : List S50) (f n : Int) (d : Bool) (hs : okByteSS s) (hc : okWrS c) (h0 : 0 ≤ n) (h1 : n ≤ (s.length : Int) - 1) : ∀ i, i ≤ c.length → Ev (fun k => impl_ReadSec.l0 k n ((i : Int) - 1) s c f d) (pickB c n (s.getD n.toNat []) i) := by
 have h := okWrS_len hc
 intro i
 induction i with
 | zero =>
  intro _
  obtain ⟨K, e⟩ := impl_joined_ev [s.getD n.toNat []] (by have := getD_len hs n.toNat; simpa using this) (by simp)
  refine evSucc ⟨K, 1, fun k hk => ?_⟩
  have hr : rd_L1 s n = s.getD n.toNat [] := by simp [rd_L1]
  have e1 := e k hk
  simp only at e1
  simp only [impl_ReadSec.l0, hr, e1, Option.bind_some]
  rw [if_neg (by omega), if_pos h0, if_pos (by omega)]
  simp [pickB]
 | succ i ih =>
  intro hn
  obtain ⟨K, e⟩ := ih (by omega)
  obtain ⟨K2, e2⟩ := impl_joined_ev [(c.getD i z50).f1] (by have := okWrS_at hc i (by omega); unfold okByteS at this; simpa using this) (by simp)
  refine evSucc ⟨K + K2, 1, fun k hk => ?_⟩
  have a1 := e k (by omega)
  have a2 := e2 k (by omega)
  have hc' : ((i + 1 : Nat) : Int) - 1 = (i : Int) := by omega
  have hr : rd_T50 c (i : Int) = c.getD i z50 := by simp [rd_T50]
  simp only at a1 a2
  simp only [impl_ReadSec.l0, hc', hr, a2, Option.bind_some, pickB]
  rw [if_pos (by omega), if_pos (by omega), if_pos (by omega), w64 (x := (i : Int) - 1) (by omega) (by omega), a1]
  by_cases c1 : (c.getD i z50).f0 = n
  ·rw [if_pos c1, if_pos c1]; simp
  ·rw [if_neg c1, if_neg c1]
theorem impl_ReadSec_ev (s : List (List Int)) (c : List S50) (f : Int) (d : Bool) (n : Int) (hs : okByteSS s) (hc : okWrS c) : Ev (fun k => impl_ReadSec.f k s c f d n) (readSec s c f n) := by
 have h := okByteSS_len hs
 have h2 := okWrS_len hc
 obtain ⟨K, e⟩ := impl_DevOk_ev s c f d hs hc
 by_cases hn : 0 ≤ n ∧ n ≤ (s.length : Int) - 1
 ·obtain ⟨K2, e2⟩ := impl_ReadSec_l0 s c f n d hs hc hn.1 hn.2 c.length (Nat.le_refl _)
  refine ⟨K + K2 + 1, fun k hk => ?_⟩
  obtain ⟨k, rfl⟩ : ∃ m, k = m + 1 := ⟨k - 1, by omega⟩
  have a1 := e (k + 1) (by omega)
  have a2 := e2 k (by omega)
  simp only at a1 a2
  simp only [impl_ReadSec.f, a1, Option.bind_some, readSec, impl_within_f, impl_ReadSec.j0]
  rw [w64 (x := (s.length : Int) - 1) (by omega) (by omega), w64 (x := (c.length : Int) - 1) (by omega) (by omega), a2, decide_eq_true hn]
  cases hq : devOkB s c f with
  | false => simp
  | true => simp [hn]
 ·refine ⟨K + 1, fun k hk => ?_⟩
  obtain ⟨k, rfl⟩ : ∃ m, k = m + 1 := ⟨k - 1, by omega⟩
  have a1 := e (k + 1) (by omega)
  simp only at a1
  simp only [impl_ReadSec.f, a1, Option.bind_some, readSec, impl_within_f, impl_ReadSec.j0]
  rw [w64 (x := (s.length : Int) - 1) (by omega) (by omega), decide_eq_false hn]
  cases hq : devOkB s c f with
  | false => simp
  | true => simp; intro h3 h4; exact absurd ⟨h3, h4⟩ hn
def bytesIn (l : List Int) : Prop := ∀ x ∈ l, 0 ≤ x ∧ x ≤ 255
theorem bytesIn_at {l : List Int} (h : bytesIn l) (i : Nat) : 0 ≤ l.getD i 0 ∧ l.getD i 0 ≤ 255 := by
 by_cases hi : i < l.length
 ·exact h _ (getD_mem l i 0 hi)
 ·rw [List.getD_eq_getElem?_getD, List.getElem?_eq_none (by omega)]; decide
def getW (l : List Int) (a : Int) : Int × Int × Bool := if 0 ≤ a ∧ a ≤ (l.length : Int) - 2 then (l.getD a.toNat 0 * 256 + l.getD (a.toNat + 1) 0, a + 2, true) else (0, 0, false)
def curOk (b : List Int) (i : Int) : Prop := bytesIn b ∧ b.length ≤ 1048576 ∧ 0 ≤ i ∧ i ≤ (b.length : Int)
theorem at_ex (l : List Int) (a : Int) (hb : bytesIn l) (hl : l.length ≤ 1048576) (h0 : 0 ≤ a) (h1 : a ≤ 1000) : ∃ x, laws_at.f l a = some x ∧ 0 ≤ x ∧ x ≤ 255 := by
 unfold laws_at.f
 by_cases c : a < (l.length : Int)
 ·rw [if_pos c, if_pos h0]
  have h := bytesIn_at hb a.toNat
  have e : rd l a = l.getD a.toNat 0 := rfl
  rw [e, w64 (by omega) (by omega)]
  exact ⟨_, rfl, h.1, h.2⟩
 ·rw [if_neg c]
  rw [w64 (x := a * 31) (by omega) (by omega), w64 (x := (l.length : Int) * 7) (by omega) (by omega), w64 (by omega) (by omega)]
  have h2 := Int.tmod_nonneg (b := 256) (show 0 ≤ a * 31 + (l.length : Int) * 7 by omega)
  have h3 := Int.tmod_lt_of_pos (a * 31 + (l.length : Int) * 7) (show (0 : Int) < 256 by decide)
  exact ⟨_, rfl, h2, by omega⟩
theorem l1New_ex (b : List Int) (hb : bytesIn b) (hl : b.length ≤ 1048576) : ∃ h, Ev (fun k => spec_l1New.f k b) (b, 0, h) := by
 obtain ⟨r, ⟨h, rfl⟩, K, hk⟩ := evRangeEx (σ := Int) b.length (fun k s i => spec_l1New.l0 k b s i) (fun _ _ => True) (fun r => ∃ h, r = (b, 0, h))
  (by
   intro i s hi _
   by_cases c : i < 4000
   ·refine .inl ⟨Go.bits .and .i64 (wrap64 ((wrap64 ((wrap64 (s * 137)) + (wrap64 (rd b (i : Int))))) + 11)) 1073741823, trivial, 0, 1, fun k _ => ?_⟩
    simp only [spec_l1New.l0]
    rw [if_pos (by omega), if_pos (by omega), if_pos (by omega), w64s i (by omega)]
   ·refine .inr ⟨(b, 0, s), ⟨s, rfl⟩, 0, 1, fun k _ => ?_⟩
    simp only [spec_l1New.l0]
    rw [if_pos (by omega), if_neg (by omega)])
  (by
   intro s _
   refine ⟨(b, 0, s), ⟨s, rfl⟩, 0, 1, fun k _ => ?_⟩
   simp only [spec_l1New.l0]
   rw [if_neg (by omega)]) 0 (wrap64 (941941 + (b.length : Int))) (Nat.zero_le _) trivial
 exact ⟨h, K, fun k hk' => hk k hk'⟩
theorem spec_l1In_f (a b c : Int) : spec_l1In.f a b c = some (decide (b ≤ a ∧ a ≤ c)) := by
 unfold spec_l1In.f
 by_cases h : a ≥ b
 ·rw [if_pos h]; congr 1; rw [Bool.eq_iff_iff]; simp; omega
 ·rw [if_neg h]; congr 1; rw [Bool.eq_iff_iff]; simp; omega
def devNew (n : Int) : List (List Int) × List S50 × Int × Bool := if 1 ≤ n ∧ n ≤ 60 then (List.replicate n.toNat [], [], -1, false) else ([], [], 0, false)
theorem spec_DevNew_ev (n : Int) : Ev (fun k => spec_DevNew.f k n) (devNew n) := by
 unfold spec_DevNew.f devNew
 simp only [spec_l1In_f, Option.bind_some]
 by_cases c : 1 ≤ n ∧ n ≤ 60
 ·simp only [decide_eq_true c, if_true, if_pos c]
  obtain ⟨m, rfl⟩ := Int.eq_ofNat_of_zero_le (show 0 ≤ n by omega)
  obtain ⟨K, hk⟩ := evRange0 (σ := List (List Int)) m (fun k s i => spec_DevNew.l0 k (m : Int) i s (-1) false) (fun i s => s = List.replicate i []) (fun _ _ => (List.replicate m [], [], -1, false)) [] rfl
   (by
    intro i s hi hs
    subst hs
    refine .inl ⟨_, rfl, rfl, 0, 1, fun k _ => ?_⟩
    simp only [spec_DevNew.l0]
    rw [if_pos (by omega), if_pos (by rw [List.length_replicate]; omega), w64s i (by omega), List.replicate_succ'])
   (by
    intro s hs
    subst hs
    refine ⟨0, 1, fun k _ => ?_⟩
    simp only [spec_DevNew.l0]
    rw [if_neg (by omega)])
  exact ⟨K, fun k hk' => by simpa using hk k hk'⟩
 ·simp only [decide_eq_false c, if_neg c]
  exact evOf fun _ => by simp
theorem l1Byte_ex (b : List Int) (i h : Int) (hc : curOk b i) : ∃ x j g, spec_l1Byte.f b i h = some (x, j, g) ∧ (0 ≤ x ∧ x ≤ 255) ∧ curOk b j := by
 obtain ⟨hb, hl, h0, h1⟩ := hc
 unfold spec_l1Byte.f
 simp only [and255]
 by_cases c : i < (b.length : Int)
 ·rw [if_pos c, if_pos h0]
  exact ⟨_, _, _, rfl, ⟨by omega, by omega⟩, hb, hl, by rw [w64 (by omega) (by omega)]; omega, by rw [w64 (by omega) (by omega)]; omega⟩
 ·rw [if_neg c]
  exact ⟨_, _, _, rfl, ⟨by omega, by omega⟩, hb, hl, h0, h1⟩
theorem l1Bytes_ex (b : List Int) (i h n : Int) (hc : curOk b i) (h0 : 0 ≤ n) (hn : n ≤ 1048576) : ∃ r : List Int × Int × Int, (r.1.length = n.toNat ∧ bytesIn r.1 ∧ curOk b r.2.1) ∧ Ev (fun k => spec_l1Bytes.f k b i h n) r := by
 obtain ⟨m, rfl⟩ := Int.eq_ofNat_of_zero_le h0
 obtain ⟨r, hp, K, hk⟩ := evRangeEx (σ := List Int × Int × Int) m (fun k s i => spec_l1Bytes.l0 k (m : Int) s.1 i b s.2.1 s.2.2) (fun i s => s.1.length = i ∧ bytesIn s.1 ∧ curOk b s.2.1) (fun r => r.1.length = m ∧ bytesIn r.1 ∧ curOk b r.2.1)
  (by
   rintro i ⟨l, p, q⟩ hi ⟨h1, h2, h3⟩
   simp only at h1 h2 h3
   obtain ⟨x, j, g, e, hx, hj⟩ := l1Byte_ex b p q h3
   refine .inl ⟨(l ++ [x % 256], j, g), ⟨by simp; omega, ?_, hj⟩, 0, 1, fun k _ => ?_⟩
   ·intro y hy
    rcases List.mem_append.1 hy with hy | hy
    ·exact h2 y hy
    ·rw [List.mem_singleton.1 hy]; omega
   ·simp only [spec_l1Bytes.l0, e, Option.bind_some]
    rw [if_pos (by omega), if_pos (by omega), w64s i (by omega)])
  (by
   rintro ⟨l, p, q⟩ ⟨h1, h2, h3⟩
   refine ⟨(l, p, q), ⟨h1, h2, h3⟩, 0, 1, fun k _ => ?_⟩
   simp only [spec_l1Bytes.l0]
   rw [if_neg (by omega)]) 0 ([], i, h) (Nat.zero_le _) ⟨rfl, (by intro x hx; cases hx), hc⟩
 exact ⟨r, by simpa using hp, K, fun k hk' => hk k hk'⟩
theorem l1Below_ex (b : List Int) (i h n : Int) (hc : curOk b i) (hn : n ≤ 9223372036854775807) : ∃ x j g, spec_l1Below.f b i h n = some (x, j, g) ∧ (0 ≤ x ∧ (0 < n → x < n) ∧ (n ≤ 0 → x = 0)) ∧ curOk b j := by
 unfold spec_l1Below.f
 by_cases c : n ≤ 0
 ·rw [if_pos c]; exact ⟨_, _, _, rfl, ⟨by omega, by omega, fun _ => rfl⟩, hc⟩
 rw [if_neg c]
 by_cases c2 : n ≤ 256
 ·rw [if_pos c2]
  obtain ⟨x, j, g, e, hx, hj⟩ := l1Byte_ex b i h hc
  simp only [e, Option.bind_some]
  rw [if_neg (by omega)]
  have h1 := Int.tmod_nonneg (b := n) hx.1
  have h2 := Int.tmod_lt_of_pos x (show 0 < n by omega)
  exact ⟨_, _, _, rfl, ⟨h1, fun _ => h2, fun h => by omega⟩, hj⟩
 ·rw [if_neg c2]
  obtain ⟨x, j, g, e, hx, hj⟩ := l1Byte_ex b i h hc
  obtain ⟨x2, j2, g2, e2, hx2, hj2⟩ := l1Byte_ex b j g hj
  obtain ⟨x3, j3, g3, e3, hx3, hj3⟩ := l1Byte_ex b j2 g2 hj2
  simp only [e, e2, e3, Option.bind_some]
  rw [if_neg (by omega), w64 (x := x * 65536) (by omega) (by omega), w64 (x := x2 * 256) (by omega) (by omega), w64 (x := x * 65536 + x2 * 256) (by omega) (by omega), w64 (x := x * 65536 + x2 * 256 + x3) (by omega) (by omega)]
  have h1 := Int.tmod_nonneg (b := n) (show 0 ≤ x * 65536 + x2 * 256 + x3 by omega)
  have h2 := Int.tmod_lt_of_pos (x * 65536 + x2 * 256 + x3) (show 0 < n by omega)
  exact ⟨_, _, _, rfl, ⟨h1, fun _ => h2, fun h => by omega⟩, hj3⟩
def putW (l : List Int) (n : Int) : List Int := l ++ [n / 256 % 256, n % 256]
def keyOk5 (a b c d e : Int) : Bool := decide (0 ≤ a ∧ a ≤ 15) && (decide (1 ≤ b ∧ b ≤ 60) && (decide (0 ≤ c ∧ c ≤ 2) && if c = 1 then decide (0 ≤ d ∧ d ≤ 23) && decide (0 ≤ e ∧ e ≤ 999) else decide (d = 0) && decide (e = 0)))
def putKey (l : List Int) (a b c d e : Int) : List Int := if keyOk5 a b c d e = true then putW (l ++ [a % 256, b % 256, c % 256, d % 256]) e else l
def okD (m : Nat) (s : List (List Int)) (c : List S50) : Prop := (2 ≤ s.length ∧ s.length ≤ 7) ∧ (∀ x ∈ s, x.length ≤ 4) ∧ c.length ≤ m ∧ ∀ x ∈ c, (0 ≤ x.f0 ∧ x.f0 < (s.length : Int)) ∧ x.f1.length ≤ 4
theorem okD_at {m : Nat} {s : List (List Int)} {c : List S50} (h : okD m s c) (i : Nat) (hi : i < c.length) : (0 ≤ (c.getD i z50).f0 ∧ (c.getD i z50).f0 < (s.length : Int)) ∧ (c.getD i z50).f1.length ≤ 4 := h.2.2.2 _ (getD_mem c i z50 hi)
theorem burnF_none (d : Bool) : burnF (-1) d = (-1, d, true) := by unfold burnF; rw [if_neg (by decide), if_neg (by decide)]
theorem flushed_none (s : List (List Int)) (c : List S50) : flushed s c (-1) false = (flushSecs s c c.length, [], -1, false) := by
 unfold flushed
 rw [if_neg (by decide), burnF_none]
 rfl
theorem flushSecs_small {m : Nat} {s : List (List Int)} {c : List S50} (h : okD m s c) : ∀ i, i ≤ c.length → ∀ x ∈ flushSecs s c i, x.length ≤ 4
 | 0, _, x, hx => h.2.1 x hx
 | i + 1, hi, x, hx => by
  unfold flushSecs at hx
  rcases List.mem_or_eq_of_mem_set hx with q | q
  ·exact flushSecs_small h i (by omega) x q
  ·rw [q]; exact (okD_at h i (by omega)).2
theorem okD_flush {m n : Nat} {s : List (List Int)} {c : List S50} (h : okD m s c) : okD n (flushSecs s c c.length) [] := by
 refine ⟨by rw [flushSecs_length]; exact h.1, flushSecs_small h _ (Nat.le_refl _), by simp, fun x hx => by cases hx⟩
theorem okD_mono {m n : Nat} {s : List (List Int)} {c : List S50} (h : okD m s c) (hn : m ≤ n) : okD n s c := ⟨h.1, h.2.1, by have := h.2.2.1; omega, h.2.2.2⟩
theorem flOk_of {m : Nat} {s : List (List Int)} {c : List S50} (h : okD m s c) (hm : m ≤ 100) : flOk s c = true := by
 unfold flOk
 rw [Bool.and_eq_true, decide_eq_true_eq]
 refine ⟨by have := h.2.2.1; omega, allFrom_iff.2 fun i _ hi => ?_⟩
 simp only [decide_eq_true_eq]
 exact (okD_at h i hi).1
theorem wrote_none (s : List (List Int)) (c : List S50) (n : Int) (b : List Int) : wrote s c (-1) false n b = (if putsB s c false n b = true then c ++ [⟨n, b⟩] else c, -1, false) := by
 unfold wrote
 rw [burnF_none]
 split <;> rfl
theorem okD_wrote {m : Nat} {s : List (List Int)} {c : List S50} (n : Int) (b : List Int) (h : okD m s c) (hn : 0 ≤ n ∧ n < (s.length : Int)) (hb : b.length ≤ 4) : okD (m + 1) s (if putsB s c false n b = true then c ++ [⟨n, b⟩] else c) := by
 split
 ·refine ⟨h.1, h.2.1, by rw [List.length_append]; have := h.2.2.1; simp only [List.length_cons, List.length_nil]; omega, fun x hx => ?_⟩
  rcases List.mem_append.1 hx with hx | hx
  ·exact h.2.2.2 x hx
  ·rw [List.mem_singleton.1 hx]; exact ⟨hn, hb⟩
 ·exact okD_mono h (by omega)
theorem l2Go_ex (b : List Int) : ∀ (n m : Nat) (s : List (List Int)) (c : List S50) (j g : Int), n + m ≤ 8 → okD m s c → curOk b j → ∃ s' c' j' g', okD 8 s' c' ∧ Ev (fun k => spec_l2Draw.l0 k (n : Int) s c (-1) false b j g) (s', c', -1, false, j', g')
 | 0, m, s, c, j, g, hm, hd, hc => ⟨s, c, j, g, okD_mono hd (by omega), evSucc ⟨0, 1, fun k _ => by simp only [spec_l2Draw.l0]; rw [if_neg (by omega)]⟩⟩
 | n + 1, m, s, c, j, g, hm, hd, hc => by
  obtain ⟨x, j1, g1, e, hx, hj1⟩ := l1Below_ex b j g 4 hc (by decide)
  cases hz : (x == 0) with
  | true =>
   obtain ⟨s', c', j', g', hok, K, hK⟩ := l2Go_ex b n (m + 1) (flushSecs s c c.length) [] j1 g1 (by omega) (okD_flush hd) hj1
   refine ⟨s', c', j', g', hok, evSucc ⟨K, 1, fun k hk => ?_⟩⟩
   have a1 := hK k hk
   simp only at a1
   simp only [spec_l2Draw.l0, spec_l1Once.f, e, Option.bind_some, hz, if_true]
   rw [if_pos (by omega), if_pos (flOk_of hd (by omega)), flushed_none, w64 (x := ((n + 1 : Nat) : Int) - 1) (by omega) (by omega), show ((n + 1 : Nat) : Int) - 1 = (n : Int) by omega]
   exact a1
  | false =>
   have hsl := hd.1
   obtain ⟨y, j2, g2, e2, hy, hj2⟩ := l1Below_ex b j1 g1 (s.length : Int) hj1 (by omega)
   obtain ⟨z, j3, g3, e3, hz3, hj3⟩ := l1Below_ex b j2 g2 4 hj2 (by decide)
   have hz4 := hz3.2.1 (by decide)
   obtain ⟨⟨r, j4, g4⟩, ⟨hr, _, hj4⟩, K2, hK2⟩ := l1Bytes_ex b j3 g3 z hj3 hz3.1 (by omega)
   simp only at hr hj4
   obtain ⟨s', c', j', g', hok, K, hK⟩ := l2Go_ex b n (m + 1) s _ j4 g4 (by omega) (okD_wrote y r hd ⟨hy.1, hy.2.1 (by omega)⟩ (by omega)) hj4
   refine ⟨s', c', j', g', hok, evSucc ⟨K + K2, 1, fun k hk => ?_⟩⟩
   have a1 := hK k (by omega)
   have a2 := hK2 k (by omega)
   simp only at a1 a2
   simp only [spec_l2Draw.l0, spec_l1Once.f, e, Option.bind_some, hz, Bool.false_eq_true, if_false, e2, e3, a2]
   rw [if_pos (by omega), wrote_none, w64 (x := ((n + 1 : Nat) : Int) - 1) (by omega) (by omega), show ((n + 1 : Nat) : Int) - 1 = (n : Int) by omega]
   exact a1
theorem DrawDev_ex (b : List Int) (hb : bytesIn b) (hl : b.length ≤ 1048576) : ∃ s c, okD 8 s c ∧ Ev (fun k => spec_DrawDev.f k b) (s, c, -1, false) := by
 obtain ⟨h, K0, e0⟩ := l1New_ex b hb hl
 obtain ⟨x, j1, g1, e1, hx, hj1⟩ := l1Below_ex b 0 h 6 ⟨hb, hl, by omega, by omega⟩ (by decide)
 have hx6 := hx.2.1 (by decide)
 obtain ⟨K1, hK1⟩ := spec_DevNew_ev (2 + x)
 obtain ⟨n, j2, g2, e2, hn, hj2⟩ := l1Below_ex b j1 g1 8 hj1 (by decide)
 have hn8 := hn.2.1 (by decide)
 obtain ⟨m, rfl⟩ := Int.eq_ofNat_of_zero_le hn.1
 have hdn : devNew (2 + x) = (List.replicate (2 + x).toNat [], [], -1, false) := by unfold devNew; rw [if_pos (by omega)]
 have hok : okD 0 (List.replicate (2 + x).toNat ([] : List Int)) ([] : List S50) := ⟨by rw [List.length_replicate]; omega, fun y hy => by rw [(List.mem_replicate.1 hy).2]; simp, by simp, fun y hy => by cases hy⟩
 obtain ⟨s', c', j', g', hok', K2, hK2⟩ := l2Go_ex b m 0 _ _ j2 g2 (by omega) hok hj2
 refine ⟨s', c', hok', K0 + K1 + K2, fun k hk => ?_⟩
 have a1 := hK1 k (by omega)
 have a2 := hK2 k (by omega)
 rw [hdn] at a1
 simp only at a1 a2
 simp only [spec_DrawDev.f, spec_l2Draw.f, spec_l2Draw.g, e0 k (by omega), e1, Option.bind_some, w64 (x := 2 + x) (by omega) (by omega), a1, e2, a2]
theorem getD_set (s : List (List Int)) (t i : Nat) (x : List Int) (hi : i < s.length) : (s.set t x).getD i [] = if t = i then x else s.getD i [] := by
 rw [List.getD_eq_getElem?_getD, List.getElem?_set, List.getD_eq_getElem?_getD]
 by_cases h : t = i
 ·subst h; simp [hi]
 ·rw [if_neg h, if_neg h]
theorem bulk_small : ∀ (s : List (List Int)), (∀ x ∈ s, x.length ≤ 4) → bulkByteSS s ≤ 5 * s.length
 | [], _ => by simp [bulkByteSS]
 | x :: xs, h => by
  have h1 := h x (by simp)
  have h2 := bulk_small xs (fun y hy => h y (by simp [hy]))
  simp only [bulkByteSS, List.length_cons]
  omega
theorem bulkW_small : ∀ (c : List S50), (∀ x ∈ c, x.f1.length ≤ 4) → bulkWrS c ≤ 5 * c.length
 | [], _ => by simp [bulkWrS]
 | x :: xs, h => by
  have h1 := h x (by simp)
  have h2 := bulkW_small xs (fun y hy => h y (by simp [hy]))
  simp only [bulkWrS, List.length_cons]
  omega
theorem okD_devM {m : Nat} {s : List (List Int)} {c : List S50} (h : okD m s c) (hm : m ≤ 60) : devOkB s c (-1) = true := by
 have h1 := h.1
 have h2 := h.2.2.1
 unfold devOkB
 simp only [Bool.and_eq_true, decide_eq_true_eq]
 refine ⟨allFrom_iff.2 fun i _ hi => ?_, allFrom_iff.2 fun i _ hi => ?_, by omega, by omega, by omega⟩
 ·have := h.2.1 _ (getD_mem s i [] hi)
  simp only [decide_eq_true_eq]
  omega
 ·have := okD_at h i hi
  unfold wrOkB
  simp only [Bool.and_eq_true, decide_eq_true_eq]
  omega
theorem okD_bulkM {m : Nat} {s : List (List Int)} {c : List S50} (h : okD m s c) (hm : m ≤ 100) : okByteSS s ∧ okWrS c := by
 have h1 := bulk_small s h.2.1
 have h2 := bulkW_small c (fun x hx => (h.2.2.2 x hx).2)
 have h3 := h.1
 have h4 := h.2.2.1
 unfold okByteSS okWrS
 omega
theorem flush_pick {m : Nat} {s : List (List Int)} {c : List S50} (h : okD m s c) (i : Nat) (hi : i < s.length) : ∀ k, k ≤ c.length → (flushSecs s c k).getD i [] = pickB c (i : Int) (s.getD i []) k
 | 0, _ => rfl
 | k + 1, hk => by
  have ih := flush_pick h i hi k (by omega)
  have h0 := (okD_at h k (by omega)).1
  unfold flushSecs pickB
  rw [getD_set _ _ _ _ (by rw [flushSecs_length]; exact hi)]
  by_cases ht : (c.getD k z50).f0 = (i : Int)
  ·rw [if_pos ht, if_pos (by omega)]
  ·rw [if_neg ht, if_neg (by omega), ih]
theorem readSec_in {m : Nat} {s : List (List Int)} {c : List S50} (h : okD m s c) (hm : m ≤ 60) (i : Nat) (hi : i < s.length) : readSec s c (-1) (i : Int) = pickB c (i : Int) (s.getD i []) c.length := by
 unfold readSec
 rw [if_pos ⟨okD_devM h hm, by omega, by omega⟩, Int.toNat_natCast]
theorem read_flushed {m : Nat} {s : List (List Int)} {c : List S50} (h : okD m s c) (hm : m ≤ 60) (i : Nat) (hi : i < s.length) : readSec (flushSecs s c c.length) [] (-1) (i : Int) = readSec s c (-1) (i : Int) ∧ (flushSecs s c c.length).getD i [] = readSec s c (-1) (i : Int) := by
 have e := flush_pick h i hi c.length (Nat.le_refl _)
 rw [readSec_in h hm i hi, readSec_in (okD_flush (n := 0) h) (by omega) i (by rw [flushSecs_length]; exact hi)]
 exact ⟨e, e⟩
theorem pickB_app (c : List S50) (x : S50) (n : Int) (b : List Int) : ∀ k, k ≤ c.length → pickB (c ++ [x]) n b k = pickB c n b k
 | 0, _ => rfl
 | k + 1, hk => by
  have e : (c ++ [x]).getD k z50 = c.getD k z50 := by rw [List.getD_eq_getElem?_getD, List.getD_eq_getElem?_getD, List.getElem?_append_left (by omega)]
  unfold pickB
  rw [e, pickB_app c x n b k (by omega)]
theorem okD_app {m : Nat} {s : List (List Int)} {c : List S50} (n : Int) (b : List Int) (h : okD m s c) (hn : 0 ≤ n ∧ n < (s.length : Int)) (hb : b.length ≤ 4) : okD (m + 1) s (c ++ [⟨n, b⟩]) := by
 refine ⟨h.1, h.2.1, by rw [List.length_append]; have := h.2.2.1; simp only [List.length_cons, List.length_nil]; omega, fun x hx => ?_⟩
 rcases List.mem_append.1 hx with hx | hx
 ·exact h.2.2.2 x hx
 ·rw [List.mem_singleton.1 hx]; exact ⟨hn, hb⟩
theorem read_written {m : Nat} {s : List (List Int)} {c : List S50} (n : Nat) (b : List Int) (h : okD m s c) (hm : m < 60) (hn : n < s.length) (hb : b.length ≤ 4) (i : Nat) (hi : i < s.length) : readSec s (c ++ [⟨(n : Int), b⟩]) (-1) (i : Int) = if i = n then b else readSec s c (-1) (i : Int) := by
 rw [readSec_in (okD_app (n : Int) b h (by omega) hb) (by omega) i hi, readSec_in h (by omega) i hi]
 have hl : (c ++ [(⟨(n : Int), b⟩ : S50)]).length = c.length + 1 := by simp
 have hg : (c ++ [(⟨(n : Int), b⟩ : S50)]).getD c.length z50 = ⟨(n : Int), b⟩ := by rw [List.getD_eq_getElem?_getD]; simp
 rw [hl]
 show (if ((c ++ [(⟨(n : Int), b⟩ : S50)]).getD c.length z50).f0 = (i : Int) then ((c ++ [(⟨(n : Int), b⟩ : S50)]).getD c.length z50).f1 else pickB (c ++ [(⟨(n : Int), b⟩ : S50)]) (i : Int) (s.getD i []) c.length) = _
 rw [hg, pickB_app c _ _ _ c.length (Nat.le_refl _)]
 by_cases e : i = n
 ·rw [if_pos e, if_pos (by show (n : Int) = (i : Int); omega)]
 ·rw [if_neg e, if_neg (by show ¬ (n : Int) = (i : Int); omega)]
theorem puts_drawn {m : Nat} {s : List (List Int)} {c : List S50} (n : Nat) (b : List Int) (h : okD m s c) (hm : m < 60) (hn : n < s.length) (hb : b.length ≤ 4) : putsB s c false (n : Int) b = true := by
 have h1 := h.1
 have h2 := h.2.2.1
 unfold putsB
 rw [w64 (x := (s.length : Int) - 1) (by omega) (by omega), decide_eq_true (show 0 ≤ (n : Int) ∧ (n : Int) ≤ (s.length : Int) - 1 by omega), decide_eq_false (show ¬ 80 < (b.length : Int) by omega), decide_eq_false (show ¬ 60 ≤ (c.length : Int) by omega)]
 rfl
theorem writeSec_drawn {m : Nat} {s : List (List Int)} {c : List S50} (n : Nat) (b : List Int) (h : okD m s c) (hm : m < 60) (hn : n < s.length) (hb : b.length ≤ 4) : writeSec s c (-1) false (n : Int) b = (s, c ++ [⟨(n : Int), b⟩], -1, false) := by
 unfold writeSec
 rw [if_pos (okD_devM h (by omega)), wrote_none, if_pos (puts_drawn n b h hm hn hb)]
theorem flushDev_drawn {m : Nat} {s : List (List Int)} {c : List S50} (h : okD m s c) (hm : m ≤ 60) : flushDev s c (-1) false = (flushSecs s c c.length, [], -1, false) := by
 unfold flushDev
 rw [if_pos (okD_devM h hm), flushed_none]
end Go.Proofs.Ytilhcaofpfeioaa.Pure
