/- The law: the functions that it reaches, each with the proof that the machine's call comes to its answer, what they answer, and the law's row; each theorem says its conditions itself. -/
import Derived.Test.YtilhcaofpfeioaaZFnFalls0
namespace Go.Proofs.Ytilhcaofpfeioaa.Law
open Go.RowKit Go.Proofs.Ytilhcaofpfeioaa.PFnFalls Go.Proofs.Ytilhcaofpfeioaa.Core Go.Proofs.YtilhcaofpfeioaaW.PrintWords Go.Proofs.YtilhcaofpfeioaaW.PrintLast Go.Proofs.YtilhcaofpfeioaaW.PrintMore Go.Proofs.Ytilhcaofpfeioaa.Pure
set_option linter.unusedSimpArgs false
set_option linter.unusedVariables false
set_option maxHeartbeats 8000000 in
set_option maxRecDepth 100000 in
theorem walk_copyDev (A0_0 : Option Addr) (c0_0 : Nat) (l0_0 : List (List (Int))) (A0_1 : Option Addr) (c0_1 : Nat) (l0_1 : List (S50)) (a0_2 : Int) (a0_3 : Bool) (w : World) (hf0_0 : Kd.F (Kd.slice 5 (Kd.int .u8)) w (In 0 w.heap.size) A0_0 l0_0.length l0_0) (hc0_0 : l0_0.length ≤ c0_0) (hf0_1 : Kd.F k50 w (In 0 w.heap.size) A0_1 l0_1.length l0_1) (hc0_1 : l0_1.length ≤ c0_1) (hok0 : okByteSS l0_0) (hok1 : okWrS l0_1) :
  Calls Try.prog 58 #[.agg #[.slice A0_0 l0_0.length c0_0, .slice A0_1 l0_1.length c0_1, .int .i64 a0_2, .bool a0_3]] w fun e w' => ∃ v0_ v1_ : Value, ∃ m_ : Nat, e = .returned (.agg #[v0_, v1_, .int .i64 a0_2, .bool a0_3]) ∧ w.heap.size ≤ m_ ∧ m_ ≤ w'.heap.size ∧ Kd.S (Kd.slice 5 (Kd.int .u8)) 37 w' w.heap.size (In w.heap.size m_) v0_ l0_0 ∧ Kd.S k50 50 w' w.heap.size (In m_ w'.heap.size) v1_ l0_1 ∧ Below w.heap.size w w' := by
 have hu25 := Try.underlying25
 have hu50 := Try.underlying50
 have HF0_0 := aA.mk hf0_0
 have HC0_0 := aA.mk hc0_0
 clear hf0_0 hc0_0
 have HF0_1 := aA.mk hf0_1
 have HC0_1 := aA.mk hc0_1
 clear hf0_1 hc0_1
 have HB := aA.mk (Below.refl w.heap.size w)
 have HORD := aA.mk (Nat.le_refl w.heap.size)
 have HT := aA.mk (Nat.le_refl w.heap.size)
 go_enter Try.func58, Try.ntmps58
 go_wp2_with (first | ((with_reducible refine gate_dst (N := 1) rfl ?_); refine box_event ?hg (N := 1) ?hd (cs := #[.slice A0_0 l0_0.length c0_0, .slice A0_1 l0_1.length c0_1, .int .i64 a0_2, .bool a0_3]) (t := 25) ?hr ?_; (case hd => rfl); (case hg => rfl); (case hr => first | (go_simp; done) | (go_simp; rfl)); intro gb1 hg_ w1 hbox hb; have hge_ : w.heap.size ≤ gb1 := (by rw [hg_]; exact HT.out); have hlt_ : gb1 + 1 ≤ w1.heap.size := blk_lt hbox; have n0_ := aA.mk (Kd.aZ HF0_0.out hb); have n1_ := aA.mk (Kd.aZ HF0_1.out hb); have n2_ := aA.mk (bD HB.out hb); have n3_ := aA.mk (hbox); have n4_ := aA.mk (And.intro HORD.out (And.intro hge_ (Nat.le_succ gb1))); have n5_ := aA.mk (hlt_); (try clear HF0_0); (try clear HF0_1); (try clear HB); (try clear BK1); (try clear HORD); (try clear HT); have HF0_0 := n0_; have HF0_1 := n1_; have HB := n2_; have BK1 := n3_; have HORD := n4_; have HT := n5_; clear n0_ n1_ n2_ n3_ n4_ n5_; clear hb hbox hg_ hge_ hlt_; have hzgb1_0_1 : w1.cell? ⟨gb1, 0, none⟩ = some (.slice A0_0 l0_0.length c0_0) := (aD BK1.out 0).trans rfl; have hygb1_0_1 := aC BK1.out 0; have hzgb1_1_1 : w1.cell? ⟨gb1, 1, none⟩ = some (.slice A0_1 l0_1.length c0_1) := (aD BK1.out 1).trans rfl; have hygb1_1_1 := aC BK1.out 1; have hzgb1_2_1 : w1.cell? ⟨gb1, 2, none⟩ = some (.int .i64 a0_2) := (aD BK1.out 2).trans rfl; have hygb1_2_1 := aC BK1.out 2; have hzgb1_3_1 : w1.cell? ⟨gb1, 3, none⟩ = some (.bool a0_3) := (aD BK1.out 3).trans rfl; have hygb1_3_1 := aC BK1.out 3) | ((with_reducible refine gate_dst (N := 2) rfl ?_); refine box_event ?hg (N := 2) ?hd (cs := #[.slice none 0 0, .slice none 0 0, .int .i64 0, .bool false]) (t := 25) ?hr ?_; (case hd => rfl); (case hg => rfl); (case hr => first | (go_simp; done) | (go_simp; rfl)); intro gb2 hg_ w2 hbox hb; have hge_ : (gb1 + 1) ≤ gb2 := (by rw [hg_]; exact HT.out); have hlt_ : gb2 + 1 ≤ w2.heap.size := blk_lt hbox; have n0_ := aA.mk (Kd.aZ HF0_0.out hb); have n1_ := aA.mk (Kd.aZ HF0_1.out hb); have n2_ := aA.mk (aW BK1.out hb); have n3_ := aA.mk (bD HB.out hb); have n4_ := aA.mk (hbox); have n5_ := aA.mk (And.intro HORD.out (And.intro hge_ (Nat.le_succ gb2))); have n6_ := aA.mk (hlt_); (try clear HF0_0); (try clear HF0_1); (try clear BK1); (try clear HB); (try clear BK2); (try clear HORD); (try clear HT); have HF0_0 := n0_; have HF0_1 := n1_; have BK1 := n2_; have HB := n3_; have BK2 := n4_; have HORD := n5_; have HT := n6_; clear n0_ n1_ n2_ n3_ n4_ n5_ n6_; clear hb hbox hg_ hge_ hlt_; have hzgb1_0_2 : w2.cell? ⟨gb1, 0, none⟩ = some (.slice A0_0 l0_0.length c0_0) := (aD BK1.out 0).trans rfl; have hygb1_0_2 := aC BK1.out 0; have hzgb1_1_2 : w2.cell? ⟨gb1, 1, none⟩ = some (.slice A0_1 l0_1.length c0_1) := (aD BK1.out 1).trans rfl; have hygb1_1_2 := aC BK1.out 1; have hzgb1_2_2 : w2.cell? ⟨gb1, 2, none⟩ = some (.int .i64 a0_2) := (aD BK1.out 2).trans rfl; have hygb1_2_2 := aC BK1.out 2; have hzgb1_3_2 : w2.cell? ⟨gb1, 3, none⟩ = some (.bool a0_3) := (aD BK1.out 3).trans rfl; have hygb1_3_2 := aC BK1.out 3; have hzgb2_0_2 : w2.cell? ⟨gb2, 0, none⟩ = some (.slice none 0 0) := (aD BK2.out 0).trans rfl; have hygb2_0_2 := aC BK2.out 0; have hzgb2_1_2 : w2.cell? ⟨gb2, 1, none⟩ = some (.slice none 0 0) := (aD BK2.out 1).trans rfl; have hygb2_1_2 := aC BK2.out 1; have hzgb2_2_2 : w2.cell? ⟨gb2, 2, none⟩ = some (.int .i64 0) := (aD BK2.out 2).trans rfl; have hygb2_2_2 := aC BK2.out 2; have hzgb2_3_2 : w2.cell? ⟨gb2, 3, none⟩ = some (.bool false) := (aD BK2.out 3).trans rfl; have hygb2_3_2 := aC BK2.out 3) | ((with_reducible refine gate_dst (N := 3) rfl ?_); refine box_event ?hg (N := 3) ?hd (cs := #[.slice none 0 0, .slice none 0 0, .int .i64 0, .bool false]) (t := 25) ?hr ?_; (case hd => rfl); (case hg => rfl); (case hr => first | (go_simp; done) | (go_simp; rfl)); intro gb3 hg_ w3 hbox hb; have hge_ : (gb2 + 1) ≤ gb3 := (by rw [hg_]; exact HT.out); have hlt_ : gb3 + 1 ≤ w3.heap.size := blk_lt hbox; have n0_ := aA.mk (Kd.aZ HF0_0.out hb); have n1_ := aA.mk (Kd.aZ HF0_1.out hb); have n2_ := aA.mk (aW BK1.out hb); have n3_ := aA.mk (aW BK2.out hb); have n4_ := aA.mk (bD HB.out hb); have n5_ := aA.mk (hbox); have n6_ := aA.mk (And.intro HORD.out (And.intro hge_ (Nat.le_succ gb3))); have n7_ := aA.mk (hlt_); (try clear HF0_0); (try clear HF0_1); (try clear BK1); (try clear BK2); (try clear HB); (try clear BK3); (try clear HORD); (try clear HT); have HF0_0 := n0_; have HF0_1 := n1_; have BK1 := n2_; have BK2 := n3_; have HB := n4_; have BK3 := n5_; have HORD := n6_; have HT := n7_; clear n0_ n1_ n2_ n3_ n4_ n5_ n6_ n7_; clear hb hbox hg_ hge_ hlt_; have hzgb1_0_3 : w3.cell? ⟨gb1, 0, none⟩ = some (.slice A0_0 l0_0.length c0_0) := (aD BK1.out 0).trans rfl; have hygb1_0_3 := aC BK1.out 0; have hzgb1_1_3 : w3.cell? ⟨gb1, 1, none⟩ = some (.slice A0_1 l0_1.length c0_1) := (aD BK1.out 1).trans rfl; have hygb1_1_3 := aC BK1.out 1; have hzgb1_2_3 : w3.cell? ⟨gb1, 2, none⟩ = some (.int .i64 a0_2) := (aD BK1.out 2).trans rfl; have hygb1_2_3 := aC BK1.out 2; have hzgb1_3_3 : w3.cell? ⟨gb1, 3, none⟩ = some (.bool a0_3) := (aD BK1.out 3).trans rfl; have hygb1_3_3 := aC BK1.out 3; have hzgb2_0_3 : w3.cell? ⟨gb2, 0, none⟩ = some (.slice none 0 0) := (aD BK2.out 0).trans rfl; have hygb2_0_3 := aC BK2.out 0; have hzgb2_1_3 : w3.cell? ⟨gb2, 1, none⟩ = some (.slice none 0 0) := (aD BK2.out 1).trans rfl; have hygb2_1_3 := aC BK2.out 1; have hzgb2_2_3 : w3.cell? ⟨gb2, 2, none⟩ = some (.int .i64 0) := (aD BK2.out 2).trans rfl; have hygb2_2_3 := aC BK2.out 2; have hzgb2_3_3 : w3.cell? ⟨gb2, 3, none⟩ = some (.bool false) := (aD BK2.out 3).trans rfl; have hygb2_3_3 := aC BK2.out 3; have hzgb3_0_3 : w3.cell? ⟨gb3, 0, none⟩ = some (.slice none 0 0) := (aD BK3.out 0).trans rfl; have hygb3_0_3 := aC BK3.out 0; have hzgb3_1_3 : w3.cell? ⟨gb3, 1, none⟩ = some (.slice none 0 0) := (aD BK3.out 1).trans rfl; have hygb3_1_3 := aC BK3.out 1; have hzgb3_2_3 : w3.cell? ⟨gb3, 2, none⟩ = some (.int .i64 0) := (aD BK3.out 2).trans rfl; have hygb3_2_3 := aC BK3.out 2; have hzgb3_3_3 : w3.cell? ⟨gb3, 3, none⟩ = some (.bool false) := (aD BK3.out 3).trans rfl; have hygb3_3_3 := aC BK3.out 3) | ((with_reducible refine gate_store (t := 25) (p := 3) rfl ?_); refine store_event (t := 25) (p := 3) (v := ?vo_w4) (w1 := ((((w3.setCell ⟨gb3, 0, none⟩ (.slice none 0 0)).setCell ⟨gb3, 1, none⟩ (.slice none 0 0)).setCell ⟨gb3, 2, none⟩ (.int .i64 a0_2)).setCell ⟨gb3, 3, none⟩ (.bool a0_3))) ?hg ?ho ?hn ?hr ?_; (case ho => rfl); (case hg => rfl); (case hn => rfl); (case hr => first | (go_simp; done) | (go_simp; rfl)); intro w4 hw_; have hkp : Kept w3 w4 (fun k_ => k_ = gb3) := (by rw [hw_]; exact Kept.setCell (Kept.setCell (Kept.setCell (Kept.setCell (Kept.refl w3 (fun k_ => k_ = gb3)) (.inl rfl) (.slice none 0 0)) (.inl rfl) (.slice none 0 0)) (.inl rfl) (.int .i64 a0_2)) (.inl rfl) (.bool a0_3)); have hge_ : w.heap.size ≤ gb3 := (by have o_ := HORD.out; (try unfold In at *); (try show _ ≠ _); omega); have hbn_ : Below w.heap.size w w4 := (by rw [hw_]; exact aE (aE (aE (aE (HB.out) hge_) hge_) hge_) hge_); have hbk_ : w4.heap[gb3]? = some (.cells #[.slice none 0 0, .slice none 0 0, .int .i64 a0_2, .bool a0_3] 25 (0, 0)) := (by rw [hw_]; exact bE (cs := #[.slice none 0 0, .slice none 0 0, .int .i64 a0_2, .bool false]) (cs' := #[.slice none 0 0, .slice none 0 0, .int .i64 a0_2, .bool a0_3]) (bE (cs := #[.slice none 0 0, .slice none 0 0, .int .i64 0, .bool false]) (cs' := #[.slice none 0 0, .slice none 0 0, .int .i64 a0_2, .bool false]) (bE (cs := #[.slice none 0 0, .slice none 0 0, .int .i64 0, .bool false]) (cs' := #[.slice none 0 0, .slice none 0 0, .int .i64 0, .bool false]) (bE (cs := #[.slice none 0 0, .slice none 0 0, .int .i64 0, .bool false]) (cs' := #[.slice none 0 0, .slice none 0 0, .int .i64 0, .bool false]) (BK3.out) 0 _ rfl) 1 _ rfl) 2 _ rfl) 3 _ rfl); have hsz_ : (gb3 + 1) ≤ w4.heap.size := Nat.le_trans HT.out hkp.1; have n0_ := aA.mk (Kd.bF HF0_0.out hkp (fun k_ h1_ h2_ => by have o_ := HORD.out; have t_ := HT.out; (try simp only [In2, Up, In, Ex, Exb] at h1_ h2_); omega)); have n1_ := aA.mk (Kd.bF HF0_1.out hkp (fun k_ h1_ h2_ => by have o_ := HORD.out; have t_ := HT.out; (try simp only [In2, Up, In, Ex, Exb] at h1_ h2_); omega)); have n2_ := aA.mk (bG BK1.out hkp (fun h2_ => by have o_ := HORD.out; have t_ := HT.out; (try simp only [In2, Up, In, Ex, Exb] at h2_); omega)); have n3_ := aA.mk (bG BK2.out hkp (fun h2_ => by have o_ := HORD.out; have t_ := HT.out; (try simp only [In2, Up, In, Ex, Exb] at h2_); omega)); have n4_ := aA.mk (hbn_); have n5_ := aA.mk (hbk_); have n6_ := aA.mk (hsz_); (try clear HF0_0); (try clear HF0_1); (try clear BK1); (try clear BK2); (try clear HB); (try clear BK3); (try clear HT); have HF0_0 := n0_; have HF0_1 := n1_; have BK1 := n2_; have BK2 := n3_; have HB := n4_; have BK3 := n5_; have HT := n6_; clear n0_ n1_ n2_ n3_ n4_ n5_ n6_; clear hw_ hkp hge_ hbn_ hbk_ hsz_; have hzgb1_0_4 : w4.cell? ⟨gb1, 0, none⟩ = some (.slice A0_0 l0_0.length c0_0) := (aD BK1.out 0).trans rfl; have hygb1_0_4 := aC BK1.out 0; have hzgb1_1_4 : w4.cell? ⟨gb1, 1, none⟩ = some (.slice A0_1 l0_1.length c0_1) := (aD BK1.out 1).trans rfl; have hygb1_1_4 := aC BK1.out 1; have hzgb1_2_4 : w4.cell? ⟨gb1, 2, none⟩ = some (.int .i64 a0_2) := (aD BK1.out 2).trans rfl; have hygb1_2_4 := aC BK1.out 2; have hzgb1_3_4 : w4.cell? ⟨gb1, 3, none⟩ = some (.bool a0_3) := (aD BK1.out 3).trans rfl; have hygb1_3_4 := aC BK1.out 3; have hzgb2_0_4 : w4.cell? ⟨gb2, 0, none⟩ = some (.slice none 0 0) := (aD BK2.out 0).trans rfl; have hygb2_0_4 := aC BK2.out 0; have hzgb2_1_4 : w4.cell? ⟨gb2, 1, none⟩ = some (.slice none 0 0) := (aD BK2.out 1).trans rfl; have hygb2_1_4 := aC BK2.out 1; have hzgb2_2_4 : w4.cell? ⟨gb2, 2, none⟩ = some (.int .i64 0) := (aD BK2.out 2).trans rfl; have hygb2_2_4 := aC BK2.out 2; have hzgb2_3_4 : w4.cell? ⟨gb2, 3, none⟩ = some (.bool false) := (aD BK2.out 3).trans rfl; have hygb2_3_4 := aC BK2.out 3; have hzgb3_0_4 : w4.cell? ⟨gb3, 0, none⟩ = some (.slice none 0 0) := (aD BK3.out 0).trans rfl; have hygb3_0_4 := aC BK3.out 0; have hzgb3_1_4 : w4.cell? ⟨gb3, 1, none⟩ = some (.slice none 0 0) := (aD BK3.out 1).trans rfl; have hygb3_1_4 := aC BK3.out 1; have hzgb3_2_4 : w4.cell? ⟨gb3, 2, none⟩ = some (.int .i64 a0_2) := (aD BK3.out 2).trans rfl; have hygb3_2_4 := aC BK3.out 2; have hzgb3_3_4 : w4.cell? ⟨gb3, 3, none⟩ = some (.bool a0_3) := (aD BK3.out 3).trans rfl; have hygb3_3_4 := aC BK3.out 3))
 go_loopg [16] (l0_0.length) (fun kq  v5 w' => ∃ (i5 : Nat) (x5 : Int) (u5 : Value), v5 = .int .i64 x5 ∧ aA (x5 = (i5 : Int)) ∧ aA (i5 + kq = l0_0.length) ∧ aA ((gb3 + 1) ≤ w'.heap.size) ∧ aA (Kd.S (Kd.slice 5 (Kd.int .u8)) 37 w' w.heap.size (Up 0 0 (gb3 + 1)) u5 (l0_0.take i5)) ∧ aA (Kd.F (Kd.slice 5 (Kd.int .u8)) w' (In 0 w.heap.size) A0_0 l0_0.length l0_0) ∧ aA (Kd.F k50 w' (In 0 w.heap.size) A0_1 l0_1.length l0_1) ∧ aA (w'.heap[gb1]? = some (.cells #[.slice A0_0 l0_0.length c0_0, .slice A0_1 l0_1.length c0_1, .int .i64 a0_2, .bool a0_3] 25 (0, 0))) ∧ aA (w'.heap[gb2]? = some (.cells #[.slice none 0 0, .slice none 0 0, .int .i64 0, .bool false] 25 (0, 0))) ∧ aA (w'.heap[gb3]? = some (.cells #[u5, .slice none 0 0, .int .i64 a0_2, .bool a0_3] 25 (0, 0))) ∧ aA (Below w.heap.size w w'))
 case atStart => exact ⟨0, 0, _, rfl, ⟨rfl⟩, ⟨Nat.zero_add _⟩, HT, ⟨by rw [show l0_0.take 0 = [] from rfl]; exact Kd.S_nil _ _ _ _ _⟩, HF0_0, HF0_1, BK1, BK2, BK3, HB⟩
 clear HF0_0 HF0_1 BK1 BK2 BK3 HB HT
 obtain ⟨i5, x5, u5, rfl, HI5, HK5, HT, HS5, HF0_0, HF0_1, BK1, BK2, BK3, HB⟩ := hrel
 obtain ⟨xs5, ex_⟩ : ∃ y_, y_ = l0_0.take i5 := ⟨_, rfl⟩
 rw [← ex_] at HS5
 have HX5 := aA.mk ex_
 clear ex_
 obtain ⟨A5, c5, ev_⟩ := Kd.S_slice HS5.out
 subst ev_
 obtain ⟨hi5, e2_⟩ : ∃ n_, n_ = wr.heap.size := ⟨_, rfl⟩
 have ol_ : (gb3 + 1) ≤ hi5 := (by rw [e2_]; exact HT.out)
 have hs_ := Kd.S_mono (ok' := In2 0 0 (gb3 + 1) hi5) (Kd.S_bound HS5.out) (fun k_ hk_ => by have h1_ := hk_.1; have h2_ := hk_.2.2.1; rw [← e2_] at h2_; (try simp only [In2, Up, In, Ex, Exb] at h1_ ⊢); omega)
 have n0_ := aA.mk (And.intro HORD.out ol_)
 have n1_ := aA.mk (Nat.le_of_eq e2_)
 clear HS5 HORD HT
 have HORD := n0_
 have HT := n1_
 have HS5 := aA.mk hs_
 have HF5 := aA.mk (Kd.S_F hs_)
 have HC5 := aA.mk (Kd.S_reads' hs_).2.1
 clear n0_ n1_ hs_ ol_ e2_
 rcases gk with _ | k1
 rotate_left
 ·have hp_ : 0 ≤ x5 := (by have := HI5.out; omega)
  have hq_ : x5 < (l0_0.length : Int) := (by have := HI5.out; have := HK5.out; omega)
  have hd_ : decide (x5 < (l0_0.length : Int)) = true := decide_eq_true hq_
  have hzgb1_0_5 : wr.cell? ⟨gb1, 0, none⟩ = some (.slice A0_0 l0_0.length c0_0) := (aD BK1.out 0).trans rfl
  have hygb1_0_5 := aC BK1.out 0
  have hzgb1_1_5 : wr.cell? ⟨gb1, 1, none⟩ = some (.slice A0_1 l0_1.length c0_1) := (aD BK1.out 1).trans rfl
  have hygb1_1_5 := aC BK1.out 1
  have hzgb1_2_5 : wr.cell? ⟨gb1, 2, none⟩ = some (.int .i64 a0_2) := (aD BK1.out 2).trans rfl
  have hygb1_2_5 := aC BK1.out 2
  have hzgb1_3_5 : wr.cell? ⟨gb1, 3, none⟩ = some (.bool a0_3) := (aD BK1.out 3).trans rfl
  have hygb1_3_5 := aC BK1.out 3
  have hzgb2_0_5 : wr.cell? ⟨gb2, 0, none⟩ = some (.slice none 0 0) := (aD BK2.out 0).trans rfl
  have hygb2_0_5 := aC BK2.out 0
  have hzgb2_1_5 : wr.cell? ⟨gb2, 1, none⟩ = some (.slice none 0 0) := (aD BK2.out 1).trans rfl
  have hygb2_1_5 := aC BK2.out 1
  have hzgb2_2_5 : wr.cell? ⟨gb2, 2, none⟩ = some (.int .i64 0) := (aD BK2.out 2).trans rfl
  have hygb2_2_5 := aC BK2.out 2
  have hzgb2_3_5 : wr.cell? ⟨gb2, 3, none⟩ = some (.bool false) := (aD BK2.out 3).trans rfl
  have hygb2_3_5 := aC BK2.out 3
  have hzgb3_0_5 : wr.cell? ⟨gb3, 0, none⟩ = some (.slice A5 xs5.length c5) := (aD BK3.out 0).trans rfl
  have hygb3_0_5 := aC BK3.out 0
  have hzgb3_1_5 : wr.cell? ⟨gb3, 1, none⟩ = some (.slice none 0 0) := (aD BK3.out 1).trans rfl
  have hygb3_1_5 := aC BK3.out 1
  have hzgb3_2_5 : wr.cell? ⟨gb3, 2, none⟩ = some (.int .i64 a0_2) := (aD BK3.out 2).trans rfl
  have hygb3_2_5 := aC BK3.out 2
  have hzgb3_3_5 : wr.cell? ⟨gb3, 3, none⟩ = some (.bool a0_3) := (aD BK3.out 3).trans rfl
  have hygb3_3_5 := aC BK3.out 3
  obtain ⟨ad6, Ae6, ce6, ee6, hx6_0, hl6, hf6⟩ := F_row HF0_0.out x5 hp_ hq_
  cases ee6
  have HF6 := aA.mk hf6
  have HC6 := aA.mk hl6
  clear hf6 hl6
  try go_wp2
  have n_ := aA.mk (Kd.F_drew HF0_0.out)
  clear HF0_0
  have HF0_0 := n_
  clear n_
  have n_ := aA.mk (Kd.F_drew HF0_1.out)
  clear HF0_1
  have HF0_1 := n_
  clear n_
  have n_ := aA.mk (Kd.F_drew HF5.out)
  clear HF5
  have HF5 := n_
  clear n_
  have n_ := aA.mk (Kd.S_drew HS5.out)
  clear HS5
  have HS5 := n_
  clear n_
  have n_ := aA.mk (Kd.F_drew HF6.out)
  clear HF6
  have HF6 := n_
  clear n_
  have n_ := aA.mk (aN BK1.out)
  clear BK1
  have BK1 := n_
  clear n_
  have n_ := aA.mk (aN BK2.out)
  clear BK2
  have BK2 := n_
  clear n_
  have n_ := aA.mk (aN BK3.out)
  clear BK3
  have BK3 := n_
  clear n_
  have n_ := aA.mk (aJ HB.out)
  clear HB
  have HB := n_
  clear n_
  have n_ := aA.mk (show _ ≤ wr.drew.heap.size from HT.out)
  clear HT
  have HT := n_
  clear n_
  refine start_ (n := 9) (S := fun w' => w'.cell? ⟨gb3, 0, none⟩ = some (.slice A5 xs5.length c5) ∧ w'.cell? ⟨gb3, 1, none⟩ = some (.slice none 0 0) ∧ w'.cell? ⟨gb3, 2, none⟩ = some (.int .i64 a0_2) ∧ w'.cell? ⟨gb3, 3, none⟩ = some (.bool a0_3)) (ds := [8]) #[false, false, false, false, false, false, false, false, false] (by kernel_rfl) rfl rfl ⟨(aD BK3.out 0).trans rfl, (aD BK3.out 1).trans rfl, (aD BK3.out 2).trans rfl, (aD BK3.out 3).trans rfl⟩ (fun hHeld => ?_)
  generalize wr.drew = w7 at HF0_0 HF0_1 HF5 HS5 HF6 BK1 BK2 BK3 HB HT hHeld ⊢
  refine bB (i := 0) (N := some 20) (v := ?_) (a' := ?_) #[true, false, false, false, false, false, false, false, false] rfl rfl (by kernel_rfl) (fun _ _ _ h => h) (Or.inl ⟨by rfl, ?_⟩) ?_ ?_
  rotate_left
  ·intro w'
   go_simp
   with_reducible rfl
  rotate_left
  ·simp only [Act.put, lA, lB, lC, aU, aT]
   rfl
  refine take_ (i := 1) (N := some 21) (v := ?_) (a' := ?_) #[true, true, false, false, false, false, false, false, false] rfl rfl (by kernel_rfl) (fun _ _ _ h => h) (Or.inl ⟨by rfl, ?_⟩) hHeld ?_ ?_
  rotate_left
  ·rintro w' ⟨s0, s1, s2, s3⟩
   go_simp
   with_reducible rfl
  rotate_left
  ·simp only [Act.put, lA, lB, lC, aU, aT]
   rfl
  refine bB (i := 2) (N := some 22) (v := ?_) (a' := ?_) #[true, true, true, false, false, false, false, false, false] rfl rfl (by kernel_rfl) (fun _ _ _ h => h) (Or.inl ⟨by rfl, ?_⟩) ?_ ?_
  rotate_left
  ·intro w'
   go_simp
   with_reducible rfl
  rotate_left
  ·simp only [Act.put, lA, lB, lC, aU, aT]
   rfl
  refine one_ (i := 3) (N := some 23) #[true, true, true, true, false, false, false, false, false] rfl rfl (by kernel_rfl) (by decide) (fun K hK => ?_)
  refine Kd.N_lit_step (Kd.slice 5 (Kd.int .u8)) _ 37 ?hg (N' := 23) ?hd (xs := ([(rdR l0_0 x5)] : List (List (Int)))) (inner := [.slice Ae6 ((rdR l0_0 x5)).length ce6]) (ok := (fun k_ => (In 0 w.heap.size) k_ ∨ hi5 ≤ k_)) (okp := (In 0 w.heap.size)) ?hr ?hp (fun _ hk => .inl hk) (.inr HT.out) (Below.refl _ _) (Nat.le_refl _) (by simp) ?_
  (case hd => rfl)
  (case hg => rfl)
  (case hr => first | (go_simp; done) | (go_simp; rfl))
  (case hp => exact (Reps.one (Kd.FK_slice_mk HC6.out HF6.out) (Reps.none _ _)))
  intro vl8 w8 ho_ hb hg_ hat_
  obtain ⟨A8, c8, ev_⟩ := Kd.N_slice ho_
  subst ev_
  have n0_ := aA.mk (Kd.aZ HF0_0.out hb)
  have n1_ := aA.mk (Kd.aZ HF0_1.out hb)
  have n2_ := aA.mk (Kd.aZ HF5.out hb)
  have n3_ := aA.mk (Kd.S_below HS5.out hb)
  have n4_ := aA.mk (Kd.aZ HF6.out hb)
  have n5_ := aA.mk (aW BK1.out hb)
  have n6_ := aA.mk (aW BK2.out hb)
  have n7_ := aA.mk (aW BK3.out hb)
  have n8_ := aA.mk (bD HB.out hb)
  have n9_ := aA.mk (Nat.le_trans HT.out hb.size)
  have n10_ := aA.mk (Kd.N_F ho_)
  have n11_ := aA.mk ((Kd.N_reads' ho_).2.1)
  (try clear HF0_0)
  (try clear HF0_1)
  (try clear HF5)
  (try clear HS5)
  (try clear HF6)
  (try clear BK1)
  (try clear BK2)
  (try clear BK3)
  (try clear HB)
  (try clear HT)
  (try clear HF8)
  (try clear HC8)
  have HF0_0 := n0_
  have HF0_1 := n1_
  have HF5 := n2_
  have HS5 := n3_
  have HF6 := n4_
  have BK1 := n5_
  have BK2 := n6_
  have BK3 := n7_
  have HB := n8_
  have HT := n9_
  have HF8 := n10_
  have HC8 := n11_
  clear n0_ n1_ n2_ n3_ n4_ n5_ n6_ n7_ n8_ n9_ n10_ n11_
  clear hb ho_ hg_ hat_
  refine hK.out _ _ ⟨(aD BK3.out 0).trans rfl, (aD BK3.out 1).trans rfl, (aD BK3.out 2).trans rfl, (aD BK3.out 3).trans rfl⟩ (fun hHeld => ?_)
  clear hK K
  refine norm_ (a' := ?_) ?_ ?_
  rotate_left
  ·show Act.put _ (some 23) _ = _
   simp only [Act.put, lA, lB, lC, aU, aT]
   rfl
  refine one_ (i := 4) (N := some 24) #[true, true, true, true, true, false, false, false, false] rfl rfl (by kernel_rfl) (by decide) (fun K hK => ?_)
  obtain ⟨kj10, hj_⟩ := joined1 ((rdR l0_0 x5)) (by first | exact getS_len hok0 _ | exact getW_len hok1 _)
  have J10 := aA.mk hj_
  clear hj_
  refine goes_ Try.func55 (by kernel_rfl) rfl #[.slice A8 (([(rdR l0_0 x5)] : List (List (Int)))).length c8] (by rfl) rfl rfl (by (try simp only [List.map_toArray, List.map_cons, List.map_nil]); first | done | rfl | (simp only [List.length_drop, List.length_take]; rfl)) ?_
  (with_reducible refine (impl_joined.calls kj10 _ _ (([(rdR l0_0 x5)] : List (List (Int)))) ((rdR l0_0 x5)) _ ?s1 ?s2 J10.out).mono ?_)
  (case s1 => exact (Kd.F_now HF8.out))
  (case s2 => exact HC8.out)
  rintro e_ w9 ⟨v0_, rfl, ho0, hb⟩
  refine ⟨_, rfl, ?_⟩
  obtain ⟨lo9, hi9, el_, eh_, ol_, oh_⟩ := Mem.times HT.out hb
  (try rw [← el_] at ho0)
  obtain ⟨A9_0, c9_0, ev_, hc0_, hf0_, hs0_⟩ := Mem.new_R ho0 eh_
  subst ev_
  have n0_ := aA.mk (Kd.aZ HF0_0.out hb)
  have n1_ := aA.mk (Kd.aZ HF0_1.out hb)
  have n2_ := aA.mk (Kd.aZ HF5.out hb)
  have n3_ := aA.mk (Kd.S_below HS5.out hb)
  have n4_ := aA.mk (Kd.aZ HF6.out hb)
  have n5_ := aA.mk (Kd.aZ HF8.out hb)
  have n6_ := aA.mk (aW BK1.out hb)
  have n7_ := aA.mk (aW BK2.out hb)
  have n8_ := aA.mk (aW BK3.out hb)
  have n9_ := aA.mk (bD HB.out hb)
  have n10_ := aA.mk (hf0_)
  have n11_ := aA.mk (hc0_)
  have n12_ := aA.mk (hs0_)
  have n13_ := aA.mk (And.intro HORD.out (And.intro ol_ oh_))
  have n14_ := aA.mk (Nat.le_of_eq eh_)
  (try clear HF0_0)
  (try clear HF0_1)
  (try clear HF5)
  (try clear HS5)
  (try clear HF6)
  (try clear HF8)
  (try clear BK1)
  (try clear BK2)
  (try clear BK3)
  (try clear HB)
  (try clear HF9_0)
  (try clear HC9_0)
  (try clear HS9_0)
  (try clear HORD)
  (try clear HT)
  have HF0_0 := n0_
  have HF0_1 := n1_
  have HF5 := n2_
  have HS5 := n3_
  have HF6 := n4_
  have HF8 := n5_
  have BK1 := n6_
  have BK2 := n7_
  have BK3 := n8_
  have HB := n9_
  have HF9_0 := n10_
  have HC9_0 := n11_
  have HS9_0 := n12_
  have HORD := n13_
  have HT := n14_
  clear n0_ n1_ n2_ n3_ n4_ n5_ n6_ n7_ n8_ n9_ n10_ n11_ n12_ n13_ n14_
  clear ol_ oh_ el_ eh_ ho0 hf0_ hc0_ hs0_
  (try clear hb)
  refine hK.out _ _ ⟨(aD BK3.out 0).trans rfl, (aD BK3.out 1).trans rfl, (aD BK3.out 2).trans rfl, (aD BK3.out 3).trans rfl⟩ (fun hHeld => ?_)
  clear hK K
  refine norm_ (a' := ?_) ?_ ?_
  rotate_left
  ·show Act.put _ (some 24) _ = _
   simp only [Act.put, lA, lB, lC, aU, aT]
   rfl
  refine one_ (i := 5) (N := some 25) #[true, true, true, true, true, true, false, false, false] rfl rfl (by kernel_rfl) (by decide) (fun K hK => ?_)
  refine value_ (w1 := ?_) (v := ?_) (by rfl) rfl ?_ ?_
  rotate_left 2
  ·go_simp
   constructor
   ·rfl
   ·rfl
  refine hK.out _ _ ⟨(aD (aH BK3.out _) 0).trans rfl, (aD (aH BK3.out _) 1).trans rfl, (aD (aH BK3.out _) 2).trans rfl, (aD (aH BK3.out _) 3).trans rfl⟩ (fun hHeld => ?_)
  clear hK K
  refine norm_ (a' := ?_) ?_ ?_
  rotate_left
  ·show Act.put _ (some 25) _ = _
   simp only [Act.put, lA, lB, lC, aU, aT]
   rfl
  refine one_ (i := 6) (N := some 26) #[true, true, true, true, true, true, true, false, false] rfl rfl (by kernel_rfl) (by decide) (fun K hK => ?_)
  refine Kd.S_append_step (Kd.slice 5 (Kd.int .u8)) (w0 := w) w.heap.size (by rfl) (.tmp 21) (.tmp 25) 22 37 (.slice none 0 0) 24 rfl Try.underlying22 info37 rfl (by decide) (by omega) (.slice A5 xs5.length c5) xs5 ((rdR l0_0 x5)) [.slice A9_0 ((rdR l0_0 x5)).length c9_0] (Up 0 0 (gb3 + 1)) (In lo9 hi9) rfl rfl ?aP ?aK ?aF ?aO ?aB ?aS ?aL ?_
  (case aB => exact HB.out)
  (case aS => exact bH HB.out)
  (case aP => exact Kd.M_row (Kd.R_lower HS9_0.out (by have o_ := HORD.out; have t_ := HT.out; (try simp only [In2, Up, In, Ex, Exb] at *); omega)))
  (case aK => exact (fun k_ hk_ => ⟨(by have o_ := HORD.out; have t_ := HT.out; (try simp only [In2, Up, In, Ex, Exb] at hk_ ⊢); omega), (fun he_ => by have hz_ := (Kd.S_R HS5.out).1 k_ he_.symm; have o_ := HORD.out; have t_ := HT.out; (try simp only [In2, Up, In, Ex, Exb] at hk_ hz_); omega)⟩))
  (case aF => exact (fun k_ hk_ => by have o_ := HORD.out; have t_ := HT.out; (try simp only [In2, Up, In, Ex, Exb] at hk_ ⊢); omega))
  (case aO => exact Kd.S_mono (Kd.S_lower HS5.out (by have o_ := HORD.out; omega)) (fun k_ hk_ => ⟨(by have o_ := HORD.out; have t_ := HT.out; (try simp only [In2, Up, In, Ex, Exb] at hk_ ⊢); omega), (fun h2_ => by have o_ := HORD.out; have t_ := HT.out; (try simp only [In2, Up, In, Ex, Exb] at hk_ h2_); omega)⟩))
  (case aL => (have hl1_ := okByteSS_len hok0; have h3_ := congrArg List.length HX5.out; rw [List.length_take] at h3_; omega))
  intro v11 w11 ho_ hbn_ hg_ hat_
  obtain ⟨ys11, ey_⟩ : ∃ y_, y_ = xs5 ++ [(rdR l0_0 x5)] := ⟨_, rfl⟩
  rw [← ey_] at ho_
  have HY11 := aA.mk ey_
  clear ey_
  have hkp := kept_grown (S := (In2 0 0 (gb3 + 1) hi5)) hg_ (fun k_ he_ => (Kd.S_R HS5.out).1 k_ he_)
  obtain ⟨A11, c11, ev_⟩ := Kd.S_slice ho_
  subst ev_
  obtain ⟨hi11, e2_⟩ : ∃ n_, n_ = w11.heap.size := ⟨_, rfl⟩
  have ol_ : hi9 ≤ hi11 := (by rw [e2_]; exact Nat.le_trans HT.out hkp.1)
  have hs_ := Kd.S_mono (ok' := In2 0 0 (gb3 + 1) hi11) (Kd.S_bound ho_) (fun k_ hk_ => by have h1_ := hk_.1; have h2_ := hk_.2.2.1; rw [← e2_] at h2_; (try simp only [In2, Up, In, Ex, Exb] at h1_ ⊢); omega)
  have n0_ := aA.mk (Kd.bF HF0_0.out hkp (fun k_ h1_ h2_ => by have o_ := HORD.out; have t_ := HT.out; (try simp only [In2, Up, In, Ex, Exb] at h1_ h2_); omega))
  have n1_ := aA.mk (Kd.bF HF0_1.out hkp (fun k_ h1_ h2_ => by have o_ := HORD.out; have t_ := HT.out; (try simp only [In2, Up, In, Ex, Exb] at h1_ h2_); omega))
  have n2_ := aA.mk (Kd.bF HF6.out hkp (fun k_ h1_ h2_ => by have o_ := HORD.out; have t_ := HT.out; (try simp only [In2, Up, In, Ex, Exb] at h1_ h2_); omega))
  have n3_ := aA.mk (bG BK1.out hkp (fun h2_ => by have o_ := HORD.out; have t_ := HT.out; (try simp only [In2, Up, In, Ex, Exb] at h2_); omega))
  have n4_ := aA.mk (bG BK2.out hkp (fun h2_ => by have o_ := HORD.out; have t_ := HT.out; (try simp only [In2, Up, In, Ex, Exb] at h2_); omega))
  have n5_ := aA.mk (bG BK3.out hkp (fun h2_ => by have o_ := HORD.out; have t_ := HT.out; (try simp only [In2, Up, In, Ex, Exb] at h2_); omega))
  have n6_ := aA.mk (hbn_)
  have n7_ := aA.mk (And.intro HORD.out ol_)
  have n8_ := aA.mk (Nat.le_of_eq e2_)
  have n9_ := aA.mk (hs_)
  have n10_ := aA.mk (Kd.S_F hs_)
  have n11_ := aA.mk ((Kd.S_reads' hs_).2.1)
  (try clear HF0_0)
  (try clear HF0_1)
  (try clear HF6)
  (try clear BK1)
  (try clear BK2)
  (try clear BK3)
  (try clear HB)
  (try clear HORD)
  (try clear HT)
  (try clear HS11)
  (try clear HF11)
  (try clear HC11)
  have HF0_0 := n0_
  have HF0_1 := n1_
  have HF6 := n2_
  have BK1 := n3_
  have BK2 := n4_
  have BK3 := n5_
  have HB := n6_
  have HORD := n7_
  have HT := n8_
  have HS11 := n9_
  have HF11 := n10_
  have HC11 := n11_
  clear n0_ n1_ n2_ n3_ n4_ n5_ n6_ n7_ n8_ n9_ n10_ n11_
  clear hs_ ho_ hbn_ hg_ hat_ hkp ol_ e2_
  refine hK.out _ _ ⟨(aD BK3.out 0).trans rfl, (aD BK3.out 1).trans rfl, (aD BK3.out 2).trans rfl, (aD BK3.out 3).trans rfl⟩ (fun hHeld => ?_)
  clear hK K
  refine norm_ (a' := ?_) ?_ ?_
  rotate_left
  ·show Act.put _ (some 26) _ = _
   simp only [Act.put, lA, lB, lC, aU, aT]
   rfl
  refine bB (i := 7) (N := some 27) (v := ?_) (a' := ?_) #[true, true, true, true, true, true, true, true, false] rfl rfl (by kernel_rfl) (fun _ _ _ h => h) (Or.inl ⟨by rfl, ?_⟩) ?_ ?_
  rotate_left
  ·intro w'
   go_simp
   with_reducible rfl
  rotate_left
  ·simp only [Act.put, lA, lB, lC, aU, aT]
   rfl
  refine last_ (i := 8) (N := none) #[true, true, true, true, true, true, true, true, true] rfl rfl (by kernel_rfl) (by decide) (fun K hK => ?_)
  have hzgb1_0_12 : w11.cell? ⟨gb1, 0, none⟩ = some (.slice (some ad6) l0_0.length c0_0) := (aD BK1.out 0).trans rfl
  have hygb1_0_12 := aC BK1.out 0
  have hzgb1_1_12 : w11.cell? ⟨gb1, 1, none⟩ = some (.slice A0_1 l0_1.length c0_1) := (aD BK1.out 1).trans rfl
  have hygb1_1_12 := aC BK1.out 1
  have hzgb1_2_12 : w11.cell? ⟨gb1, 2, none⟩ = some (.int .i64 a0_2) := (aD BK1.out 2).trans rfl
  have hygb1_2_12 := aC BK1.out 2
  have hzgb1_3_12 : w11.cell? ⟨gb1, 3, none⟩ = some (.bool a0_3) := (aD BK1.out 3).trans rfl
  have hygb1_3_12 := aC BK1.out 3
  have hzgb2_0_12 : w11.cell? ⟨gb2, 0, none⟩ = some (.slice none 0 0) := (aD BK2.out 0).trans rfl
  have hygb2_0_12 := aC BK2.out 0
  have hzgb2_1_12 : w11.cell? ⟨gb2, 1, none⟩ = some (.slice none 0 0) := (aD BK2.out 1).trans rfl
  have hygb2_1_12 := aC BK2.out 1
  have hzgb2_2_12 : w11.cell? ⟨gb2, 2, none⟩ = some (.int .i64 0) := (aD BK2.out 2).trans rfl
  have hygb2_2_12 := aC BK2.out 2
  have hzgb2_3_12 : w11.cell? ⟨gb2, 3, none⟩ = some (.bool false) := (aD BK2.out 3).trans rfl
  have hygb2_3_12 := aC BK2.out 3
  have hzgb3_0_12 : w11.cell? ⟨gb3, 0, none⟩ = some (.slice A5 xs5.length c5) := (aD BK3.out 0).trans rfl
  have hygb3_0_12 := aC BK3.out 0
  have hzgb3_1_12 : w11.cell? ⟨gb3, 1, none⟩ = some (.slice none 0 0) := (aD BK3.out 1).trans rfl
  have hygb3_1_12 := aC BK3.out 1
  have hzgb3_2_12 : w11.cell? ⟨gb3, 2, none⟩ = some (.int .i64 a0_2) := (aD BK3.out 2).trans rfl
  have hygb3_2_12 := aC BK3.out 2
  have hzgb3_3_12 : w11.cell? ⟨gb3, 3, none⟩ = some (.bool a0_3) := (aD BK3.out 3).trans rfl
  have hygb3_3_12 := aC BK3.out 3
  have hge_ : w.heap.size ≤ gb3 := (by have o_ := HORD.out; omega)
  refine skip_ (w1 := ?_) (by rfl) rfl ?_ ?_
  rotate_left
  ·go_simp
   rfl
  refine hK.out _ _ ?_
  clear hK K
  refine done_ (by kernel_rfl) ?_
  obtain ⟨w12, hw_⟩ : ∃ z_, z_ = (w11.setCell ⟨gb3, 0, none⟩ (.slice A11 ys11.length c11)) := ⟨_, rfl⟩
  (try rw [← hw_])
  have hkp : Kept w11 w12 (fun k_ => k_ = gb3) := (by rw [hw_]; exact Kept.setCell (Kept.refl w11 (fun k_ => k_ = gb3)) (.inl rfl) (.slice A11 ys11.length c11))
  have hbn_ : Below w.heap.size w w12 := (by rw [hw_]; exact aE (HB.out) hge_)
  have hbk_ : w12.heap[gb3]? = some (.cells #[.slice A11 ys11.length c11, .slice none 0 0, .int .i64 a0_2, .bool a0_3] 25 (0, 0)) := (by rw [hw_]; exact bE (cs := #[.slice A5 xs5.length c5, .slice none 0 0, .int .i64 a0_2, .bool a0_3]) (cs' := #[.slice A11 ys11.length c11, .slice none 0 0, .int .i64 a0_2, .bool a0_3]) (BK3.out) 0 _ rfl)
  have hsz_ : hi11 ≤ w12.heap.size := Nat.le_trans HT.out hkp.1
  have n0_ := aA.mk (Kd.bF HF0_0.out hkp (fun k_ h1_ h2_ => by have o_ := HORD.out; have t_ := HT.out; (try simp only [In2, Up, In, Ex, Exb] at h1_ h2_); omega))
  have n1_ := aA.mk (Kd.bF HF0_1.out hkp (fun k_ h1_ h2_ => by have o_ := HORD.out; have t_ := HT.out; (try simp only [In2, Up, In, Ex, Exb] at h1_ h2_); omega))
  have n2_ := aA.mk (Kd.bF HF6.out hkp (fun k_ h1_ h2_ => by have o_ := HORD.out; have t_ := HT.out; (try simp only [In2, Up, In, Ex, Exb] at h1_ h2_); omega))
  have n3_ := aA.mk (Kd.bF HF11.out hkp (fun k_ h1_ h2_ => by have o_ := HORD.out; have t_ := HT.out; (try simp only [In2, Up, In, Ex, Exb] at h1_ h2_); omega))
  have n4_ := aA.mk (Kd.S_kept HS11.out hkp (fun k_ h1_ h2_ => by have o_ := HORD.out; have t_ := HT.out; (try simp only [In2, Up, In, Ex, Exb] at h1_ h2_); omega))
  have n5_ := aA.mk (bG BK1.out hkp (fun h2_ => by have o_ := HORD.out; have t_ := HT.out; (try simp only [In2, Up, In, Ex, Exb] at h2_); omega))
  have n6_ := aA.mk (bG BK2.out hkp (fun h2_ => by have o_ := HORD.out; have t_ := HT.out; (try simp only [In2, Up, In, Ex, Exb] at h2_); omega))
  have n7_ := aA.mk (hbn_)
  have n8_ := aA.mk (hbk_)
  have n9_ := aA.mk (hsz_)
  (try clear HF0_0)
  (try clear HF0_1)
  (try clear HF6)
  (try clear HF11)
  (try clear HS11)
  (try clear BK1)
  (try clear BK2)
  (try clear HB)
  (try clear BK3)
  (try clear HT)
  have HF0_0 := n0_
  have HF0_1 := n1_
  have HF6 := n2_
  have HF11 := n3_
  have HS11 := n4_
  have BK1 := n5_
  have BK2 := n6_
  have HB := n7_
  have BK3 := n8_
  have HT := n9_
  clear n0_ n1_ n2_ n3_ n4_ n5_ n6_ n7_ n8_ n9_
  clear hw_ hkp hge_ hbn_ hbk_ hsz_
  have hzgb1_0_12 : w12.cell? ⟨gb1, 0, none⟩ = some (.slice (some ad6) l0_0.length c0_0) := (aD BK1.out 0).trans rfl
  have hygb1_0_12 := aC BK1.out 0
  have hzgb1_1_12 : w12.cell? ⟨gb1, 1, none⟩ = some (.slice A0_1 l0_1.length c0_1) := (aD BK1.out 1).trans rfl
  have hygb1_1_12 := aC BK1.out 1
  have hzgb1_2_12 : w12.cell? ⟨gb1, 2, none⟩ = some (.int .i64 a0_2) := (aD BK1.out 2).trans rfl
  have hygb1_2_12 := aC BK1.out 2
  have hzgb1_3_12 : w12.cell? ⟨gb1, 3, none⟩ = some (.bool a0_3) := (aD BK1.out 3).trans rfl
  have hygb1_3_12 := aC BK1.out 3
  have hzgb2_0_12 : w12.cell? ⟨gb2, 0, none⟩ = some (.slice none 0 0) := (aD BK2.out 0).trans rfl
  have hygb2_0_12 := aC BK2.out 0
  have hzgb2_1_12 : w12.cell? ⟨gb2, 1, none⟩ = some (.slice none 0 0) := (aD BK2.out 1).trans rfl
  have hygb2_1_12 := aC BK2.out 1
  have hzgb2_2_12 : w12.cell? ⟨gb2, 2, none⟩ = some (.int .i64 0) := (aD BK2.out 2).trans rfl
  have hygb2_2_12 := aC BK2.out 2
  have hzgb2_3_12 : w12.cell? ⟨gb2, 3, none⟩ = some (.bool false) := (aD BK2.out 3).trans rfl
  have hygb2_3_12 := aC BK2.out 3
  have hzgb3_0_12 : w12.cell? ⟨gb3, 0, none⟩ = some (.slice A11 ys11.length c11) := (aD BK3.out 0).trans rfl
  have hygb3_0_12 := aC BK3.out 0
  have hzgb3_1_12 : w12.cell? ⟨gb3, 1, none⟩ = some (.slice none 0 0) := (aD BK3.out 1).trans rfl
  have hygb3_1_12 := aC BK3.out 1
  have hzgb3_2_12 : w12.cell? ⟨gb3, 2, none⟩ = some (.int .i64 a0_2) := (aD BK3.out 2).trans rfl
  have hygb3_2_12 := aC BK3.out 2
  have hzgb3_3_12 : w12.cell? ⟨gb3, 3, none⟩ = some (.bool a0_3) := (aD BK3.out 3).trans rfl
  have hygb3_3_12 := aC BK3.out 3
  try go_wp2
  go_roundg k1
  case measure => omega
  case rel => exact ⟨i5 + 1, _, _, rfl, ⟨show _ = ((i5 + 1 : Nat) : Int) by have := HI5.out; have hm_ := Kd.F_max HF0_0.out; have := HK5.out; first | (rw [w64 (by omega) (by omega)]; omega) | omega⟩, ⟨by have := HK5.out; omega⟩, ⟨Nat.le_trans (by have o_ := HORD.out; omega) HT.out⟩, ⟨by rw [show l0_0.take (i5 + 1) = ys11 from (by rw [HY11.out, HX5.out]; unfold rdR; rw [show x5.toNat = i5 from by have := HI5.out; omega]; exact take_getD _ _ [] (by have := HK5.out; omega))]; exact Kd.S_mono (Kd.S_lower HS11.out (by have o_ := HORD.out; omega)) (fun k_ hk_ => by have o_ := HORD.out; have t_ := HT.out; (try simp only [In2, Up, In, Ex, Exb] at hk_ ⊢); omega)⟩, HF0_0, HF0_1, BK1, BK2, BK3, HB⟩
 have hi0_ : i5 = l0_0.length := (by have := HK5.out; omega)
 have hd_ : decide (x5 < (l0_0.length : Int)) = false := decide_eq_false (by have := HI5.out; omega)
 have eall_ : xs5 = l0_0 := (by rw [HX5.out, hi0_, List.take_length])
 rw [eall_] at HS5 HF5 HC5 BK3
 have hzgb1_0_12 : wr.cell? ⟨gb1, 0, none⟩ = some (.slice A0_0 l0_0.length c0_0) := (aD BK1.out 0).trans rfl
 have hygb1_0_12 := aC BK1.out 0
 have hzgb1_1_12 : wr.cell? ⟨gb1, 1, none⟩ = some (.slice A0_1 l0_1.length c0_1) := (aD BK1.out 1).trans rfl
 have hygb1_1_12 := aC BK1.out 1
 have hzgb1_2_12 : wr.cell? ⟨gb1, 2, none⟩ = some (.int .i64 a0_2) := (aD BK1.out 2).trans rfl
 have hygb1_2_12 := aC BK1.out 2
 have hzgb1_3_12 : wr.cell? ⟨gb1, 3, none⟩ = some (.bool a0_3) := (aD BK1.out 3).trans rfl
 have hygb1_3_12 := aC BK1.out 3
 have hzgb2_0_12 : wr.cell? ⟨gb2, 0, none⟩ = some (.slice none 0 0) := (aD BK2.out 0).trans rfl
 have hygb2_0_12 := aC BK2.out 0
 have hzgb2_1_12 : wr.cell? ⟨gb2, 1, none⟩ = some (.slice none 0 0) := (aD BK2.out 1).trans rfl
 have hygb2_1_12 := aC BK2.out 1
 have hzgb2_2_12 : wr.cell? ⟨gb2, 2, none⟩ = some (.int .i64 0) := (aD BK2.out 2).trans rfl
 have hygb2_2_12 := aC BK2.out 2
 have hzgb2_3_12 : wr.cell? ⟨gb2, 3, none⟩ = some (.bool false) := (aD BK2.out 3).trans rfl
 have hygb2_3_12 := aC BK2.out 3
 have hzgb3_0_12 : wr.cell? ⟨gb3, 0, none⟩ = some (.slice A5 l0_0.length c5) := (aD BK3.out 0).trans rfl
 have hygb3_0_12 := aC BK3.out 0
 have hzgb3_1_12 : wr.cell? ⟨gb3, 1, none⟩ = some (.slice none 0 0) := (aD BK3.out 1).trans rfl
 have hygb3_1_12 := aC BK3.out 1
 have hzgb3_2_12 : wr.cell? ⟨gb3, 2, none⟩ = some (.int .i64 a0_2) := (aD BK3.out 2).trans rfl
 have hygb3_2_12 := aC BK3.out 2
 have hzgb3_3_12 : wr.cell? ⟨gb3, 3, none⟩ = some (.bool a0_3) := (aD BK3.out 3).trans rfl
 have hygb3_3_12 := aC BK3.out 3
 try go_wp2
 go_loopg [32] (l0_1.length) (fun kq  v13 w' => ∃ (i13 : Nat) (x13 : Int) (u13 : Value), v13 = .int .i64 x13 ∧ aA (x13 = (i13 : Int)) ∧ aA (i13 + kq = l0_1.length) ∧ aA (hi5 ≤ w'.heap.size) ∧ aA (Kd.S k50 50 w' w.heap.size (Up 0 0 hi5) u13 (l0_1.take i13)) ∧ aA (Kd.F (Kd.slice 5 (Kd.int .u8)) w' (In 0 w.heap.size) A0_0 l0_0.length l0_0) ∧ aA (Kd.F k50 w' (In 0 w.heap.size) A0_1 l0_1.length l0_1) ∧ aA (Kd.F (Kd.slice 5 (Kd.int .u8)) w' (In2 0 0 (gb3 + 1) hi5) A5 l0_0.length l0_0) ∧ aA (Kd.S (Kd.slice 5 (Kd.int .u8)) 37 w' w.heap.size (In2 0 0 (gb3 + 1) hi5) (.slice A5 l0_0.length c5) l0_0) ∧ aA (w'.heap[gb1]? = some (.cells #[.slice A0_0 l0_0.length c0_0, .slice A0_1 l0_1.length c0_1, .int .i64 a0_2, .bool a0_3] 25 (0, 0))) ∧ aA (w'.heap[gb2]? = some (.cells #[.slice none 0 0, .slice none 0 0, .int .i64 0, .bool false] 25 (0, 0))) ∧ aA (w'.heap[gb3]? = some (.cells #[.slice A5 l0_0.length c5, u13, .int .i64 a0_2, .bool a0_3] 25 (0, 0))) ∧ aA (Below w.heap.size w w'))
 case atStart => exact ⟨0, 0, _, rfl, ⟨rfl⟩, ⟨Nat.zero_add _⟩, HT, ⟨by rw [show l0_1.take 0 = [] from rfl]; exact Kd.S_nil _ _ _ _ _⟩, HF0_0, HF0_1, HF5, HS5, BK1, BK2, BK3, HB⟩
 clear HF0_0 HF0_1 HF5 HS5 BK1 BK2 BK3 HB HT
 obtain ⟨i13, x13, u13, rfl, HI13, HK13, HT, HS13, HF0_0, HF0_1, HF5, HS5, BK1, BK2, BK3, HB⟩ := hrel
 obtain ⟨xs13, ex_⟩ : ∃ y_, y_ = l0_1.take i13 := ⟨_, rfl⟩
 rw [← ex_] at HS13
 have HX13 := aA.mk ex_
 clear ex_
 obtain ⟨A13, c13, ev_⟩ := Kd.S_slice HS13.out
 subst ev_
 obtain ⟨hi13, e2_⟩ : ∃ n_, n_ = wr.heap.size := ⟨_, rfl⟩
 have ol_ : hi5 ≤ hi13 := (by rw [e2_]; exact HT.out)
 have hs_ := Kd.S_mono (ok' := In2 0 0 hi5 hi13) (Kd.S_bound HS13.out) (fun k_ hk_ => by have h1_ := hk_.1; have h2_ := hk_.2.2.1; rw [← e2_] at h2_; (try simp only [In2, Up, In, Ex, Exb] at h1_ ⊢); omega)
 have n0_ := aA.mk (And.intro HORD.out ol_)
 have n1_ := aA.mk (Nat.le_of_eq e2_)
 clear HS13 HORD HT
 have HORD := n0_
 have HT := n1_
 have HS13 := aA.mk hs_
 have HF13 := aA.mk (Kd.S_F hs_)
 have HC13 := aA.mk (Kd.S_reads' hs_).2.1
 clear n0_ n1_ hs_ ol_ e2_
 rcases gk with _ | k1
 rotate_left
 ·have hp_ : 0 ≤ x13 := (by have := HI13.out; omega)
  have hq_ : x13 < (l0_1.length : Int) := (by have := HI13.out; have := HK13.out; omega)
  have hd_ : decide (x13 < (l0_1.length : Int)) = true := decide_eq_true hq_
  have hzgb1_0_13 : wr.cell? ⟨gb1, 0, none⟩ = some (.slice A0_0 l0_0.length c0_0) := (aD BK1.out 0).trans rfl
  have hygb1_0_13 := aC BK1.out 0
  have hzgb1_1_13 : wr.cell? ⟨gb1, 1, none⟩ = some (.slice A0_1 l0_1.length c0_1) := (aD BK1.out 1).trans rfl
  have hygb1_1_13 := aC BK1.out 1
  have hzgb1_2_13 : wr.cell? ⟨gb1, 2, none⟩ = some (.int .i64 a0_2) := (aD BK1.out 2).trans rfl
  have hygb1_2_13 := aC BK1.out 2
  have hzgb1_3_13 : wr.cell? ⟨gb1, 3, none⟩ = some (.bool a0_3) := (aD BK1.out 3).trans rfl
  have hygb1_3_13 := aC BK1.out 3
  have hzgb2_0_13 : wr.cell? ⟨gb2, 0, none⟩ = some (.slice none 0 0) := (aD BK2.out 0).trans rfl
  have hygb2_0_13 := aC BK2.out 0
  have hzgb2_1_13 : wr.cell? ⟨gb2, 1, none⟩ = some (.slice none 0 0) := (aD BK2.out 1).trans rfl
  have hygb2_1_13 := aC BK2.out 1
  have hzgb2_2_13 : wr.cell? ⟨gb2, 2, none⟩ = some (.int .i64 0) := (aD BK2.out 2).trans rfl
  have hygb2_2_13 := aC BK2.out 2
  have hzgb2_3_13 : wr.cell? ⟨gb2, 3, none⟩ = some (.bool false) := (aD BK2.out 3).trans rfl
  have hygb2_3_13 := aC BK2.out 3
  have hzgb3_0_13 : wr.cell? ⟨gb3, 0, none⟩ = some (.slice A5 l0_0.length c5) := (aD BK3.out 0).trans rfl
  have hygb3_0_13 := aC BK3.out 0
  have hzgb3_1_13 : wr.cell? ⟨gb3, 1, none⟩ = some (.slice A13 xs13.length c13) := (aD BK3.out 1).trans rfl
  have hygb3_1_13 := aC BK3.out 1
  have hzgb3_2_13 : wr.cell? ⟨gb3, 2, none⟩ = some (.int .i64 a0_2) := (aD BK3.out 2).trans rfl
  have hygb3_2_13 := aC BK3.out 2
  have hzgb3_3_13 : wr.cell? ⟨gb3, 3, none⟩ = some (.bool a0_3) := (aD BK3.out 3).trans rfl
  have hygb3_3_13 := aC BK3.out 3
  obtain ⟨ad14, Ae14, ce14, ee14, hx14_0, hx14_1, hl14, hf14⟩ := F_wr HF0_1.out x13 hp_ hq_
  cases ee14
  have HF14 := aA.mk hf14
  have HC14 := aA.mk hl14
  clear hf14 hl14
  go_wp2_with (first | ((with_reducible refine gate_dst (N := 7) rfl ?_); refine box_event ?hg (N := 7) ?hd (cs := #[.int .i64 0, .slice none 0 0]) (t := 50) ?hr ?_; (case hd => rfl); (case hg => rfl); (case hr => first | (go_simp; done) | (go_simp; rfl)); intro gb15 hg_ w15 hbox hb; have hge_ : hi13 ≤ gb15 := (by rw [hg_]; exact HT.out); have hlt_ : gb15 + 1 ≤ w15.heap.size := blk_lt hbox; have n0_ := aA.mk (Kd.aZ HF0_0.out hb); have n1_ := aA.mk (Kd.aZ HF0_1.out hb); have n2_ := aA.mk (Kd.aZ HF5.out hb); have n3_ := aA.mk (Kd.S_below HS5.out hb); have n4_ := aA.mk (Kd.aZ HF13.out hb); have n5_ := aA.mk (Kd.S_below HS13.out hb); have n6_ := aA.mk (Kd.aZ HF14.out hb); have n7_ := aA.mk (aW BK1.out hb); have n8_ := aA.mk (aW BK2.out hb); have n9_ := aA.mk (aW BK3.out hb); have n10_ := aA.mk (bD HB.out hb); have n11_ := aA.mk (hbox); have n12_ := aA.mk (And.intro HORD.out (And.intro hge_ (Nat.le_succ gb15))); have n13_ := aA.mk (hlt_); (try clear HF0_0); (try clear HF0_1); (try clear HF5); (try clear HS5); (try clear HF13); (try clear HS13); (try clear HF14); (try clear BK1); (try clear BK2); (try clear BK3); (try clear HB); (try clear BK15); (try clear HORD); (try clear HT); have HF0_0 := n0_; have HF0_1 := n1_; have HF5 := n2_; have HS5 := n3_; have HF13 := n4_; have HS13 := n5_; have HF14 := n6_; have BK1 := n7_; have BK2 := n8_; have BK3 := n9_; have HB := n10_; have BK15 := n11_; have HORD := n12_; have HT := n13_; clear n0_ n1_ n2_ n3_ n4_ n5_ n6_ n7_ n8_ n9_ n10_ n11_ n12_ n13_; clear hb hbox hg_ hge_ hlt_; have hzgb1_0_15 : w15.cell? ⟨gb1, 0, none⟩ = some (.slice A0_0 l0_0.length c0_0) := (aD BK1.out 0).trans rfl; have hygb1_0_15 := aC BK1.out 0; have hzgb1_1_15 : w15.cell? ⟨gb1, 1, none⟩ = some (.slice (some ad14) l0_1.length c0_1) := (aD BK1.out 1).trans rfl; have hygb1_1_15 := aC BK1.out 1; have hzgb1_2_15 : w15.cell? ⟨gb1, 2, none⟩ = some (.int .i64 a0_2) := (aD BK1.out 2).trans rfl; have hygb1_2_15 := aC BK1.out 2; have hzgb1_3_15 : w15.cell? ⟨gb1, 3, none⟩ = some (.bool a0_3) := (aD BK1.out 3).trans rfl; have hygb1_3_15 := aC BK1.out 3; have hzgb2_0_15 : w15.cell? ⟨gb2, 0, none⟩ = some (.slice none 0 0) := (aD BK2.out 0).trans rfl; have hygb2_0_15 := aC BK2.out 0; have hzgb2_1_15 : w15.cell? ⟨gb2, 1, none⟩ = some (.slice none 0 0) := (aD BK2.out 1).trans rfl; have hygb2_1_15 := aC BK2.out 1; have hzgb2_2_15 : w15.cell? ⟨gb2, 2, none⟩ = some (.int .i64 0) := (aD BK2.out 2).trans rfl; have hygb2_2_15 := aC BK2.out 2; have hzgb2_3_15 : w15.cell? ⟨gb2, 3, none⟩ = some (.bool false) := (aD BK2.out 3).trans rfl; have hygb2_3_15 := aC BK2.out 3; have hzgb3_0_15 : w15.cell? ⟨gb3, 0, none⟩ = some (.slice A5 l0_0.length c5) := (aD BK3.out 0).trans rfl; have hygb3_0_15 := aC BK3.out 0; have hzgb3_1_15 : w15.cell? ⟨gb3, 1, none⟩ = some (.slice A13 xs13.length c13) := (aD BK3.out 1).trans rfl; have hygb3_1_15 := aC BK3.out 1; have hzgb3_2_15 : w15.cell? ⟨gb3, 2, none⟩ = some (.int .i64 a0_2) := (aD BK3.out 2).trans rfl; have hygb3_2_15 := aC BK3.out 2; have hzgb3_3_15 : w15.cell? ⟨gb3, 3, none⟩ = some (.bool a0_3) := (aD BK3.out 3).trans rfl; have hygb3_3_15 := aC BK3.out 3; have hzgb15_0_15 : w15.cell? ⟨gb15, 0, none⟩ = some (.int .i64 0) := (aD BK15.out 0).trans rfl; have hygb15_0_15 := aC BK15.out 0; have hzgb15_1_15 : w15.cell? ⟨gb15, 1, none⟩ = some (.slice none 0 0) := (aD BK15.out 1).trans rfl; have hygb15_1_15 := aC BK15.out 1) | ((with_reducible refine gate_store (t := 50) (p := 7) rfl ?_); refine store_event (t := 50) (p := 7) (v := ?vo_w16) (w1 := ((w15.setCell ⟨gb15, 0, none⟩ (.int .i64 ((rdW l0_1 x13).f0))).setCell ⟨gb15, 1, none⟩ (.slice Ae14 ((rdW l0_1 x13).f1).length ce14))) ?hg ?ho ?hn ?hr ?_; (case ho => rfl); (case hg => rfl); (case hn => rfl); (case hr => first | (go_simp; done) | (go_simp; rfl)); intro w16 hw_; have hkp : Kept w15 w16 (fun k_ => k_ = gb15) := (by rw [hw_]; exact Kept.setCell (Kept.setCell (Kept.refl w15 (fun k_ => k_ = gb15)) (.inl rfl) (.int .i64 ((rdW l0_1 x13).f0))) (.inl rfl) (.slice Ae14 ((rdW l0_1 x13).f1).length ce14)); have hge_ : w.heap.size ≤ gb15 := (by have o_ := HORD.out; (try unfold In at *); (try show _ ≠ _); omega); have hbn_ : Below w.heap.size w w16 := (by rw [hw_]; exact aE (aE (HB.out) hge_) hge_); have hbk_ : w16.heap[gb15]? = some (.cells #[.int .i64 ((rdW l0_1 x13).f0), .slice Ae14 ((rdW l0_1 x13).f1).length ce14] 50 (0, 0)) := (by rw [hw_]; exact bE (cs := #[.int .i64 ((rdW l0_1 x13).f0), .slice none 0 0]) (cs' := #[.int .i64 ((rdW l0_1 x13).f0), .slice Ae14 ((rdW l0_1 x13).f1).length ce14]) (bE (cs := #[.int .i64 0, .slice none 0 0]) (cs' := #[.int .i64 ((rdW l0_1 x13).f0), .slice none 0 0]) (BK15.out) 0 _ rfl) 1 _ rfl); have hsz_ : (gb15 + 1) ≤ w16.heap.size := Nat.le_trans HT.out hkp.1; have n0_ := aA.mk (Kd.bF HF0_0.out hkp (fun k_ h1_ h2_ => by have o_ := HORD.out; have t_ := HT.out; (try simp only [In2, Up, In, Ex, Exb] at h1_ h2_); omega)); have n1_ := aA.mk (Kd.bF HF0_1.out hkp (fun k_ h1_ h2_ => by have o_ := HORD.out; have t_ := HT.out; (try simp only [In2, Up, In, Ex, Exb] at h1_ h2_); omega)); have n2_ := aA.mk (Kd.bF HF5.out hkp (fun k_ h1_ h2_ => by have o_ := HORD.out; have t_ := HT.out; (try simp only [In2, Up, In, Ex, Exb] at h1_ h2_); omega)); have n3_ := aA.mk (Kd.S_kept HS5.out hkp (fun k_ h1_ h2_ => by have o_ := HORD.out; have t_ := HT.out; (try simp only [In2, Up, In, Ex, Exb] at h1_ h2_); omega)); have n4_ := aA.mk (Kd.bF HF13.out hkp (fun k_ h1_ h2_ => by have o_ := HORD.out; have t_ := HT.out; (try simp only [In2, Up, In, Ex, Exb] at h1_ h2_); omega)); have n5_ := aA.mk (Kd.S_kept HS13.out hkp (fun k_ h1_ h2_ => by have o_ := HORD.out; have t_ := HT.out; (try simp only [In2, Up, In, Ex, Exb] at h1_ h2_); omega)); have n6_ := aA.mk (Kd.bF HF14.out hkp (fun k_ h1_ h2_ => by have o_ := HORD.out; have t_ := HT.out; (try simp only [In2, Up, In, Ex, Exb] at h1_ h2_); omega)); have n7_ := aA.mk (bG BK1.out hkp (fun h2_ => by have o_ := HORD.out; have t_ := HT.out; (try simp only [In2, Up, In, Ex, Exb] at h2_); omega)); have n8_ := aA.mk (bG BK2.out hkp (fun h2_ => by have o_ := HORD.out; have t_ := HT.out; (try simp only [In2, Up, In, Ex, Exb] at h2_); omega)); have n9_ := aA.mk (bG BK3.out hkp (fun h2_ => by have o_ := HORD.out; have t_ := HT.out; (try simp only [In2, Up, In, Ex, Exb] at h2_); omega)); have n10_ := aA.mk (hbn_); have n11_ := aA.mk (hbk_); have n12_ := aA.mk (hsz_); (try clear HF0_0); (try clear HF0_1); (try clear HF5); (try clear HS5); (try clear HF13); (try clear HS13); (try clear HF14); (try clear BK1); (try clear BK2); (try clear BK3); (try clear HB); (try clear BK15); (try clear HT); have HF0_0 := n0_; have HF0_1 := n1_; have HF5 := n2_; have HS5 := n3_; have HF13 := n4_; have HS13 := n5_; have HF14 := n6_; have BK1 := n7_; have BK2 := n8_; have BK3 := n9_; have HB := n10_; have BK15 := n11_; have HT := n12_; clear n0_ n1_ n2_ n3_ n4_ n5_ n6_ n7_ n8_ n9_ n10_ n11_ n12_; clear hw_ hkp hge_ hbn_ hbk_ hsz_; have hzgb1_0_16 : w16.cell? ⟨gb1, 0, none⟩ = some (.slice A0_0 l0_0.length c0_0) := (aD BK1.out 0).trans rfl; have hygb1_0_16 := aC BK1.out 0; have hzgb1_1_16 : w16.cell? ⟨gb1, 1, none⟩ = some (.slice (some ad14) l0_1.length c0_1) := (aD BK1.out 1).trans rfl; have hygb1_1_16 := aC BK1.out 1; have hzgb1_2_16 : w16.cell? ⟨gb1, 2, none⟩ = some (.int .i64 a0_2) := (aD BK1.out 2).trans rfl; have hygb1_2_16 := aC BK1.out 2; have hzgb1_3_16 : w16.cell? ⟨gb1, 3, none⟩ = some (.bool a0_3) := (aD BK1.out 3).trans rfl; have hygb1_3_16 := aC BK1.out 3; have hzgb2_0_16 : w16.cell? ⟨gb2, 0, none⟩ = some (.slice none 0 0) := (aD BK2.out 0).trans rfl; have hygb2_0_16 := aC BK2.out 0; have hzgb2_1_16 : w16.cell? ⟨gb2, 1, none⟩ = some (.slice none 0 0) := (aD BK2.out 1).trans rfl; have hygb2_1_16 := aC BK2.out 1; have hzgb2_2_16 : w16.cell? ⟨gb2, 2, none⟩ = some (.int .i64 0) := (aD BK2.out 2).trans rfl; have hygb2_2_16 := aC BK2.out 2; have hzgb2_3_16 : w16.cell? ⟨gb2, 3, none⟩ = some (.bool false) := (aD BK2.out 3).trans rfl; have hygb2_3_16 := aC BK2.out 3; have hzgb3_0_16 : w16.cell? ⟨gb3, 0, none⟩ = some (.slice A5 l0_0.length c5) := (aD BK3.out 0).trans rfl; have hygb3_0_16 := aC BK3.out 0; have hzgb3_1_16 : w16.cell? ⟨gb3, 1, none⟩ = some (.slice A13 xs13.length c13) := (aD BK3.out 1).trans rfl; have hygb3_1_16 := aC BK3.out 1; have hzgb3_2_16 : w16.cell? ⟨gb3, 2, none⟩ = some (.int .i64 a0_2) := (aD BK3.out 2).trans rfl; have hygb3_2_16 := aC BK3.out 2; have hzgb3_3_16 : w16.cell? ⟨gb3, 3, none⟩ = some (.bool a0_3) := (aD BK3.out 3).trans rfl; have hygb3_3_16 := aC BK3.out 3; have hzgb15_0_16 : w16.cell? ⟨gb15, 0, none⟩ = some (.int .i64 ((rdW l0_1 x13).f0)) := (aD BK15.out 0).trans rfl; have hygb15_0_16 := aC BK15.out 0; have hzgb15_1_16 : w16.cell? ⟨gb15, 1, none⟩ = some (.slice Ae14 ((rdW l0_1 x13).f1).length ce14) := (aD BK15.out 1).trans rfl; have hygb15_1_16 := aC BK15.out 1))
  have n_ := aA.mk (Kd.F_drew HF0_0.out)
  clear HF0_0
  have HF0_0 := n_
  clear n_
  have n_ := aA.mk (Kd.F_drew HF0_1.out)
  clear HF0_1
  have HF0_1 := n_
  clear n_
  have n_ := aA.mk (Kd.F_drew HF5.out)
  clear HF5
  have HF5 := n_
  clear n_
  have n_ := aA.mk (Kd.S_drew HS5.out)
  clear HS5
  have HS5 := n_
  clear n_
  have n_ := aA.mk (Kd.F_drew HF13.out)
  clear HF13
  have HF13 := n_
  clear n_
  have n_ := aA.mk (Kd.S_drew HS13.out)
  clear HS13
  have HS13 := n_
  clear n_
  have n_ := aA.mk (Kd.F_drew HF14.out)
  clear HF14
  have HF14 := n_
  clear n_
  have n_ := aA.mk (aN BK1.out)
  clear BK1
  have BK1 := n_
  clear n_
  have n_ := aA.mk (aN BK2.out)
  clear BK2
  have BK2 := n_
  clear n_
  have n_ := aA.mk (aN BK3.out)
  clear BK3
  have BK3 := n_
  clear n_
  have n_ := aA.mk (aN BK15.out)
  clear BK15
  have BK15 := n_
  clear n_
  have n_ := aA.mk (aJ HB.out)
  clear HB
  have HB := n_
  clear n_
  have n_ := aA.mk (show _ ≤ w16.drew.heap.size from HT.out)
  clear HT
  have HT := n_
  clear n_
  refine start_ (n := 13) (S := fun w' => w'.cell? ⟨gb3, 0, none⟩ = some (.slice A5 l0_0.length c5) ∧ w'.cell? ⟨gb3, 1, none⟩ = some (.slice A13 xs13.length c13) ∧ w'.cell? ⟨gb3, 2, none⟩ = some (.int .i64 a0_2) ∧ w'.cell? ⟨gb3, 3, none⟩ = some (.bool a0_3) ∧ w'.cell? ⟨gb15, 0, none⟩ = some (.int .i64 ((rdW l0_1 x13).f0)) ∧ w'.cell? ⟨gb15, 1, none⟩ = some (.slice Ae14 ((rdW l0_1 x13).f1).length ce14)) (ds := [12]) #[false, false, false, false, false, false, false, false, false, false, false, false, false] (by kernel_rfl) rfl rfl ⟨(aD BK3.out 0).trans rfl, (aD BK3.out 1).trans rfl, (aD BK3.out 2).trans rfl, (aD BK3.out 3).trans rfl, (aD BK15.out 0).trans rfl, (aD BK15.out 1).trans rfl⟩ (fun hHeld => ?_)
  generalize w16.drew = w17 at HF0_0 HF0_1 HF5 HS5 HF13 HS13 HF14 BK1 BK2 BK3 BK15 HB HT hHeld ⊢
  refine bB (i := 0) (N := some 36) (v := ?_) (a' := ?_) #[true, false, false, false, false, false, false, false, false, false, false, false, false] rfl rfl (by kernel_rfl) (fun _ _ _ h => h) (Or.inl ⟨by rfl, ?_⟩) ?_ ?_
  rotate_left
  ·intro w'
   go_simp
   with_reducible rfl
  rotate_left
  ·simp only [Act.put, lA, lB, lC, aU, aT]
   rfl
  refine take_ (i := 1) (N := some 37) (v := ?_) (a' := ?_) #[true, true, false, false, false, false, false, false, false, false, false, false, false] rfl rfl (by kernel_rfl) (fun _ _ _ h => h) (Or.inl ⟨by rfl, ?_⟩) hHeld ?_ ?_
  rotate_left
  ·rintro w' ⟨s0, s1, s2, s3, s4, s5⟩
   go_simp
   with_reducible rfl
  rotate_left
  ·simp only [Act.put, lA, lB, lC, aU, aT]
   rfl
  refine bB (i := 2) (N := some 38) (v := ?_) (a' := ?_) #[true, true, true, false, false, false, false, false, false, false, false, false, false] rfl rfl (by kernel_rfl) (fun _ _ _ h => h) (Or.inl ⟨by rfl, ?_⟩) ?_ ?_
  rotate_left
  ·intro w'
   go_simp
   with_reducible rfl
  rotate_left
  ·simp only [Act.put, lA, lB, lC, aU, aT]
   rfl
  refine take_ (i := 3) (N := some 39) (v := ?_) (a' := ?_) #[true, true, true, true, false, false, false, false, false, false, false, false, false] rfl rfl (by kernel_rfl) (fun _ _ _ h => h) (Or.inl ⟨by rfl, ?_⟩) hHeld ?_ ?_
  rotate_left
  ·rintro w' ⟨s0, s1, s2, s3, s4, s5⟩
   go_simp
   with_reducible rfl
  rotate_left
  ·simp only [Act.put, lA, lB, lC, aU, aT]
   rfl
  refine bB (i := 4) (N := some 40) (v := ?_) (a' := ?_) #[true, true, true, true, true, false, false, false, false, false, false, false, false] rfl rfl (by kernel_rfl) (fun _ _ _ h => h) (Or.inl ⟨by rfl, ?_⟩) ?_ ?_
  rotate_left
  ·intro w'
   go_simp
   with_reducible rfl
  rotate_left
  ·simp only [Act.put, lA, lB, lC, aU, aT]
   rfl
  refine take_ (i := 5) (N := some 41) (v := ?_) (a' := ?_) #[true, true, true, true, true, true, false, false, false, false, false, false, false] rfl rfl (by kernel_rfl) (fun _ _ _ h => h) (Or.inl ⟨by rfl, ?_⟩) hHeld ?_ ?_
  rotate_left
  ·rintro w' ⟨s0, s1, s2, s3, s4, s5⟩
   go_simp
   with_reducible rfl
  rotate_left
  ·simp only [Act.put, lA, lB, lC, aU, aT]
   rfl
  refine one_ (i := 6) (N := some 42) #[true, true, true, true, true, true, true, false, false, false, false, false, false] rfl rfl (by kernel_rfl) (by decide) (fun K hK => ?_)
  refine Kd.N_lit_step (Kd.slice 5 (Kd.int .u8)) _ 37 ?hg (N' := 42) ?hd (xs := ([(rdW l0_1 x13).f1] : List (List (Int)))) (inner := [.slice Ae14 ((rdW l0_1 x13).f1).length ce14]) (ok := (fun k_ => (In 0 w.heap.size) k_ ∨ (gb15 + 1) ≤ k_)) (okp := (In 0 w.heap.size)) ?hr ?hp (fun _ hk => .inl hk) (.inr HT.out) (Below.refl _ _) (Nat.le_refl _) (by simp) ?_
  (case hd => rfl)
  (case hg => rfl)
  (case hr => first | (go_simp; done) | (go_simp; rfl))
  (case hp => exact (Reps.one (Kd.FK_slice_mk HC14.out HF14.out) (Reps.none _ _)))
  intro vl18 w18 ho_ hb hg_ hat_
  obtain ⟨A18, c18, ev_⟩ := Kd.N_slice ho_
  subst ev_
  have n0_ := aA.mk (Kd.aZ HF0_0.out hb)
  have n1_ := aA.mk (Kd.aZ HF0_1.out hb)
  have n2_ := aA.mk (Kd.aZ HF5.out hb)
  have n3_ := aA.mk (Kd.S_below HS5.out hb)
  have n4_ := aA.mk (Kd.aZ HF13.out hb)
  have n5_ := aA.mk (Kd.S_below HS13.out hb)
  have n6_ := aA.mk (Kd.aZ HF14.out hb)
  have n7_ := aA.mk (aW BK1.out hb)
  have n8_ := aA.mk (aW BK2.out hb)
  have n9_ := aA.mk (aW BK3.out hb)
  have n10_ := aA.mk (aW BK15.out hb)
  have n11_ := aA.mk (bD HB.out hb)
  have n12_ := aA.mk (Nat.le_trans HT.out hb.size)
  have n13_ := aA.mk (Kd.N_F ho_)
  have n14_ := aA.mk ((Kd.N_reads' ho_).2.1)
  (try clear HF0_0)
  (try clear HF0_1)
  (try clear HF5)
  (try clear HS5)
  (try clear HF13)
  (try clear HS13)
  (try clear HF14)
  (try clear BK1)
  (try clear BK2)
  (try clear BK3)
  (try clear BK15)
  (try clear HB)
  (try clear HT)
  (try clear HF18)
  (try clear HC18)
  have HF0_0 := n0_
  have HF0_1 := n1_
  have HF5 := n2_
  have HS5 := n3_
  have HF13 := n4_
  have HS13 := n5_
  have HF14 := n6_
  have BK1 := n7_
  have BK2 := n8_
  have BK3 := n9_
  have BK15 := n10_
  have HB := n11_
  have HT := n12_
  have HF18 := n13_
  have HC18 := n14_
  clear n0_ n1_ n2_ n3_ n4_ n5_ n6_ n7_ n8_ n9_ n10_ n11_ n12_ n13_ n14_
  clear hb ho_ hg_ hat_
  refine hK.out _ _ ⟨(aD BK3.out 0).trans rfl, (aD BK3.out 1).trans rfl, (aD BK3.out 2).trans rfl, (aD BK3.out 3).trans rfl, (aD BK15.out 0).trans rfl, (aD BK15.out 1).trans rfl⟩ (fun hHeld => ?_)
  clear hK K
  refine norm_ (a' := ?_) ?_ ?_
  rotate_left
  ·show Act.put _ (some 42) _ = _
   simp only [Act.put, lA, lB, lC, aU, aT]
   rfl
  refine one_ (i := 7) (N := some 43) #[true, true, true, true, true, true, true, true, false, false, false, false, false] rfl rfl (by kernel_rfl) (by decide) (fun K hK => ?_)
  obtain ⟨kj20, hj_⟩ := joined1 ((rdW l0_1 x13).f1) (by first | exact getS_len hok0 _ | exact getW_len hok1 _)
  have J20 := aA.mk hj_
  clear hj_
  refine goes_ Try.func55 (by kernel_rfl) rfl #[.slice A18 (([(rdW l0_1 x13).f1] : List (List (Int)))).length c18] (by rfl) rfl rfl (by (try simp only [List.map_toArray, List.map_cons, List.map_nil]); first | done | rfl | (simp only [List.length_drop, List.length_take]; rfl)) ?_
  (with_reducible refine (impl_joined.calls kj20 _ _ (([(rdW l0_1 x13).f1] : List (List (Int)))) ((rdW l0_1 x13).f1) _ ?s1 ?s2 J20.out).mono ?_)
  (case s1 => exact (Kd.F_now HF18.out))
  (case s2 => exact HC18.out)
  rintro e_ w19 ⟨v0_, rfl, ho0, hb⟩
  refine ⟨_, rfl, ?_⟩
  obtain ⟨lo19, hi19, el_, eh_, ol_, oh_⟩ := Mem.times HT.out hb
  (try rw [← el_] at ho0)
  obtain ⟨A19_0, c19_0, ev_, hc0_, hf0_, hs0_⟩ := Mem.new_R ho0 eh_
  subst ev_
  have n0_ := aA.mk (Kd.aZ HF0_0.out hb)
  have n1_ := aA.mk (Kd.aZ HF0_1.out hb)
  have n2_ := aA.mk (Kd.aZ HF5.out hb)
  have n3_ := aA.mk (Kd.S_below HS5.out hb)
  have n4_ := aA.mk (Kd.aZ HF13.out hb)
  have n5_ := aA.mk (Kd.S_below HS13.out hb)
  have n6_ := aA.mk (Kd.aZ HF14.out hb)
  have n7_ := aA.mk (Kd.aZ HF18.out hb)
  have n8_ := aA.mk (aW BK1.out hb)
  have n9_ := aA.mk (aW BK2.out hb)
  have n10_ := aA.mk (aW BK3.out hb)
  have n11_ := aA.mk (aW BK15.out hb)
  have n12_ := aA.mk (bD HB.out hb)
  have n13_ := aA.mk (hf0_)
  have n14_ := aA.mk (hc0_)
  have n15_ := aA.mk (hs0_)
  have n16_ := aA.mk (And.intro HORD.out (And.intro ol_ oh_))
  have n17_ := aA.mk (Nat.le_of_eq eh_)
  (try clear HF0_0)
  (try clear HF0_1)
  (try clear HF5)
  (try clear HS5)
  (try clear HF13)
  (try clear HS13)
  (try clear HF14)
  (try clear HF18)
  (try clear BK1)
  (try clear BK2)
  (try clear BK3)
  (try clear BK15)
  (try clear HB)
  (try clear HF19_0)
  (try clear HC19_0)
  (try clear HS19_0)
  (try clear HORD)
  (try clear HT)
  have HF0_0 := n0_
  have HF0_1 := n1_
  have HF5 := n2_
  have HS5 := n3_
  have HF13 := n4_
  have HS13 := n5_
  have HF14 := n6_
  have HF18 := n7_
  have BK1 := n8_
  have BK2 := n9_
  have BK3 := n10_
  have BK15 := n11_
  have HB := n12_
  have HF19_0 := n13_
  have HC19_0 := n14_
  have HS19_0 := n15_
  have HORD := n16_
  have HT := n17_
  clear n0_ n1_ n2_ n3_ n4_ n5_ n6_ n7_ n8_ n9_ n10_ n11_ n12_ n13_ n14_ n15_ n16_ n17_
  clear ol_ oh_ el_ eh_ ho0 hf0_ hc0_ hs0_
  (try clear hb)
  refine hK.out _ _ ⟨(aD BK3.out 0).trans rfl, (aD BK3.out 1).trans rfl, (aD BK3.out 2).trans rfl, (aD BK3.out 3).trans rfl, (aD BK15.out 0).trans rfl, (aD BK15.out 1).trans rfl⟩ (fun hHeld => ?_)
  clear hK K
  refine norm_ (a' := ?_) ?_ ?_
  rotate_left
  ·show Act.put _ (some 43) _ = _
   simp only [Act.put, lA, lB, lC, aU, aT]
   rfl
  refine bB (i := 8) (N := some 44) (v := ?_) (a' := ?_) #[true, true, true, true, true, true, true, true, true, false, false, false, false] rfl rfl (by kernel_rfl) (fun _ _ _ h => h) (Or.inl ⟨by rfl, ?_⟩) ?_ ?_
  rotate_left
  ·intro w'
   go_simp
   with_reducible rfl
  rotate_left
  ·simp only [Act.put, lA, lB, lC, aU, aT]
   rfl
  refine one_ (i := 9) (N := some 45) #[true, true, true, true, true, true, true, true, true, true, false, false, false] rfl rfl (by kernel_rfl) (by decide) (fun K hK => ?_)
  refine value_ (w1 := ?_) (v := ?_) (by rfl) rfl ?_ ?_
  rotate_left 2
  ·go_simp
   constructor
   ·rfl
   ·rfl
  refine hK.out _ _ ⟨(aD (aH BK3.out _) 0).trans rfl, (aD (aH BK3.out _) 1).trans rfl, (aD (aH BK3.out _) 2).trans rfl, (aD (aH BK3.out _) 3).trans rfl, (aD (aH BK15.out _) 0).trans rfl, (aD (aH BK15.out _) 1).trans rfl⟩ (fun hHeld => ?_)
  clear hK K
  refine norm_ (a' := ?_) ?_ ?_
  rotate_left
  ·show Act.put _ (some 45) _ = _
   simp only [Act.put, lA, lB, lC, aU, aT]
   rfl
  refine one_ (i := 10) (N := some 46) #[true, true, true, true, true, true, true, true, true, true, true, false, false] rfl rfl (by kernel_rfl) (by decide) (fun K hK => ?_)
  refine Kd.S_append_step k50 (w0 := w) w.heap.size (by rfl) (.tmp 37) (.tmp 45) 23 50 (.agg #[.int .i64 0, .slice none 0 0]) 32 rfl Try.underlying23 info50 rfl (by decide) (by omega) (.slice A13 xs13.length c13) xs13 ((⟨(rdW l0_1 x13).f0, (rdW l0_1 x13).f1⟩ : S50)) [.int .i64 ((rdW l0_1 x13).f0), .slice A19_0 ((rdW l0_1 x13).f1).length c19_0] (Up 0 0 hi5) (In lo19 hi19) rfl rfl ?aP ?aK ?aF ?aO ?aB ?aS ?aL ?_
  (case aB => exact HB.out)
  (case aS => exact bH HB.out)
  (case aP => exact k50_mkM _ _ _ _ (Kd.R_lower HS19_0.out (by have o_ := HORD.out; have t_ := HT.out; (try simp only [In2, Up, In, Ex, Exb] at *); omega)))
  (case aK => exact (fun k_ hk_ => ⟨(by have o_ := HORD.out; have t_ := HT.out; (try simp only [In2, Up, In, Ex, Exb] at hk_ ⊢); omega), (fun he_ => by have hz_ := (Kd.S_R HS13.out).1 k_ he_.symm; have o_ := HORD.out; have t_ := HT.out; (try simp only [In2, Up, In, Ex, Exb] at hk_ hz_); omega)⟩))
  (case aF => exact (fun k_ hk_ => by have o_ := HORD.out; have t_ := HT.out; (try simp only [In2, Up, In, Ex, Exb] at hk_ ⊢); omega))
  (case aO => exact Kd.S_mono (Kd.S_lower HS13.out (by have o_ := HORD.out; omega)) (fun k_ hk_ => ⟨(by have o_ := HORD.out; have t_ := HT.out; (try simp only [In2, Up, In, Ex, Exb] at hk_ ⊢); omega), (fun h2_ => by have o_ := HORD.out; have t_ := HT.out; (try simp only [In2, Up, In, Ex, Exb] at hk_ h2_); omega)⟩))
  (case aL => (have hl1_ := okWrS_len hok1; have h3_ := congrArg List.length HX13.out; rw [List.length_take] at h3_; omega))
  intro v21 w21 ho_ hbn_ hg_ hat_
  obtain ⟨ys21, ey_⟩ : ∃ y_, y_ = xs13 ++ [(⟨(rdW l0_1 x13).f0, (rdW l0_1 x13).f1⟩ : S50)] := ⟨_, rfl⟩
  rw [← ey_] at ho_
  have HY21 := aA.mk ey_
  clear ey_
  have hkp := kept_grown (S := (In2 0 0 hi5 hi13)) hg_ (fun k_ he_ => (Kd.S_R HS13.out).1 k_ he_)
  obtain ⟨A21, c21, ev_⟩ := Kd.S_slice ho_
  subst ev_
  obtain ⟨hi21, e2_⟩ : ∃ n_, n_ = w21.heap.size := ⟨_, rfl⟩
  have ol_ : hi19 ≤ hi21 := (by rw [e2_]; exact Nat.le_trans HT.out hkp.1)
  have hs_ := Kd.S_mono (ok' := In2 0 0 hi5 hi21) (Kd.S_bound ho_) (fun k_ hk_ => by have h1_ := hk_.1; have h2_ := hk_.2.2.1; rw [← e2_] at h2_; (try simp only [In2, Up, In, Ex, Exb] at h1_ ⊢); omega)
  have n0_ := aA.mk (Kd.bF HF0_0.out hkp (fun k_ h1_ h2_ => by have o_ := HORD.out; have t_ := HT.out; (try simp only [In2, Up, In, Ex, Exb] at h1_ h2_); omega))
  have n1_ := aA.mk (Kd.bF HF0_1.out hkp (fun k_ h1_ h2_ => by have o_ := HORD.out; have t_ := HT.out; (try simp only [In2, Up, In, Ex, Exb] at h1_ h2_); omega))
  have n2_ := aA.mk (Kd.bF HF5.out hkp (fun k_ h1_ h2_ => by have o_ := HORD.out; have t_ := HT.out; (try simp only [In2, Up, In, Ex, Exb] at h1_ h2_); omega))
  have n3_ := aA.mk (Kd.S_kept HS5.out hkp (fun k_ h1_ h2_ => by have o_ := HORD.out; have t_ := HT.out; (try simp only [In2, Up, In, Ex, Exb] at h1_ h2_); omega))
  have n4_ := aA.mk (Kd.bF HF14.out hkp (fun k_ h1_ h2_ => by have o_ := HORD.out; have t_ := HT.out; (try simp only [In2, Up, In, Ex, Exb] at h1_ h2_); omega))
  have n5_ := aA.mk (bG BK1.out hkp (fun h2_ => by have o_ := HORD.out; have t_ := HT.out; (try simp only [In2, Up, In, Ex, Exb] at h2_); omega))
  have n6_ := aA.mk (bG BK2.out hkp (fun h2_ => by have o_ := HORD.out; have t_ := HT.out; (try simp only [In2, Up, In, Ex, Exb] at h2_); omega))
  have n7_ := aA.mk (bG BK3.out hkp (fun h2_ => by have o_ := HORD.out; have t_ := HT.out; (try simp only [In2, Up, In, Ex, Exb] at h2_); omega))
  have n8_ := aA.mk (bG BK15.out hkp (fun h2_ => by have o_ := HORD.out; have t_ := HT.out; (try simp only [In2, Up, In, Ex, Exb] at h2_); omega))
  have n9_ := aA.mk (hbn_)
  have n10_ := aA.mk (And.intro HORD.out ol_)
  have n11_ := aA.mk (Nat.le_of_eq e2_)
  have n12_ := aA.mk (hs_)
  have n13_ := aA.mk (Kd.S_F hs_)
  have n14_ := aA.mk ((Kd.S_reads' hs_).2.1)
  (try clear HF0_0)
  (try clear HF0_1)
  (try clear HF5)
  (try clear HS5)
  (try clear HF14)
  (try clear BK1)
  (try clear BK2)
  (try clear BK3)
  (try clear BK15)
  (try clear HB)
  (try clear HORD)
  (try clear HT)
  (try clear HS21)
  (try clear HF21)
  (try clear HC21)
  have HF0_0 := n0_
  have HF0_1 := n1_
  have HF5 := n2_
  have HS5 := n3_
  have HF14 := n4_
  have BK1 := n5_
  have BK2 := n6_
  have BK3 := n7_
  have BK15 := n8_
  have HB := n9_
  have HORD := n10_
  have HT := n11_
  have HS21 := n12_
  have HF21 := n13_
  have HC21 := n14_
  clear n0_ n1_ n2_ n3_ n4_ n5_ n6_ n7_ n8_ n9_ n10_ n11_ n12_ n13_ n14_
  clear hs_ ho_ hbn_ hg_ hat_ hkp ol_ e2_
  refine hK.out _ _ ⟨(aD BK3.out 0).trans rfl, (aD BK3.out 1).trans rfl, (aD BK3.out 2).trans rfl, (aD BK3.out 3).trans rfl, (aD BK15.out 0).trans rfl, (aD BK15.out 1).trans rfl⟩ (fun hHeld => ?_)
  clear hK K
  refine norm_ (a' := ?_) ?_ ?_
  rotate_left
  ·show Act.put _ (some 46) _ = _
   simp only [Act.put, lA, lB, lC, aU, aT]
   rfl
  refine bB (i := 11) (N := some 47) (v := ?_) (a' := ?_) #[true, true, true, true, true, true, true, true, true, true, true, true, false] rfl rfl (by kernel_rfl) (fun _ _ _ h => h) (Or.inl ⟨by rfl, ?_⟩) ?_ ?_
  rotate_left
  ·intro w'
   go_simp
   with_reducible rfl
  rotate_left
  ·simp only [Act.put, lA, lB, lC, aU, aT]
   rfl
  refine last_ (i := 12) (N := none) #[true, true, true, true, true, true, true, true, true, true, true, true, true] rfl rfl (by kernel_rfl) (by decide) (fun K hK => ?_)
  have hzgb1_0_22 : w21.cell? ⟨gb1, 0, none⟩ = some (.slice A0_0 l0_0.length c0_0) := (aD BK1.out 0).trans rfl
  have hygb1_0_22 := aC BK1.out 0
  have hzgb1_1_22 : w21.cell? ⟨gb1, 1, none⟩ = some (.slice (some ad14) l0_1.length c0_1) := (aD BK1.out 1).trans rfl
  have hygb1_1_22 := aC BK1.out 1
  have hzgb1_2_22 : w21.cell? ⟨gb1, 2, none⟩ = some (.int .i64 a0_2) := (aD BK1.out 2).trans rfl
  have hygb1_2_22 := aC BK1.out 2
  have hzgb1_3_22 : w21.cell? ⟨gb1, 3, none⟩ = some (.bool a0_3) := (aD BK1.out 3).trans rfl
  have hygb1_3_22 := aC BK1.out 3
  have hzgb2_0_22 : w21.cell? ⟨gb2, 0, none⟩ = some (.slice none 0 0) := (aD BK2.out 0).trans rfl
  have hygb2_0_22 := aC BK2.out 0
  have hzgb2_1_22 : w21.cell? ⟨gb2, 1, none⟩ = some (.slice none 0 0) := (aD BK2.out 1).trans rfl
  have hygb2_1_22 := aC BK2.out 1
  have hzgb2_2_22 : w21.cell? ⟨gb2, 2, none⟩ = some (.int .i64 0) := (aD BK2.out 2).trans rfl
  have hygb2_2_22 := aC BK2.out 2
  have hzgb2_3_22 : w21.cell? ⟨gb2, 3, none⟩ = some (.bool false) := (aD BK2.out 3).trans rfl
  have hygb2_3_22 := aC BK2.out 3
  have hzgb3_0_22 : w21.cell? ⟨gb3, 0, none⟩ = some (.slice A5 l0_0.length c5) := (aD BK3.out 0).trans rfl
  have hygb3_0_22 := aC BK3.out 0
  have hzgb3_1_22 : w21.cell? ⟨gb3, 1, none⟩ = some (.slice A13 xs13.length c13) := (aD BK3.out 1).trans rfl
  have hygb3_1_22 := aC BK3.out 1
  have hzgb3_2_22 : w21.cell? ⟨gb3, 2, none⟩ = some (.int .i64 a0_2) := (aD BK3.out 2).trans rfl
  have hygb3_2_22 := aC BK3.out 2
  have hzgb3_3_22 : w21.cell? ⟨gb3, 3, none⟩ = some (.bool a0_3) := (aD BK3.out 3).trans rfl
  have hygb3_3_22 := aC BK3.out 3
  have hzgb15_0_22 : w21.cell? ⟨gb15, 0, none⟩ = some (.int .i64 ((rdW l0_1 x13).f0)) := (aD BK15.out 0).trans rfl
  have hygb15_0_22 := aC BK15.out 0
  have hzgb15_1_22 : w21.cell? ⟨gb15, 1, none⟩ = some (.slice Ae14 ((rdW l0_1 x13).f1).length ce14) := (aD BK15.out 1).trans rfl
  have hygb15_1_22 := aC BK15.out 1
  have hge_ : w.heap.size ≤ gb3 := (by have o_ := HORD.out; omega)
  refine skip_ (w1 := ?_) (by rfl) rfl ?_ ?_
  rotate_left
  ·go_simp
   rfl
  refine hK.out _ _ ?_
  clear hK K
  refine done_ (by kernel_rfl) ?_
  obtain ⟨w22, hw_⟩ : ∃ z_, z_ = (w21.setCell ⟨gb3, 1, none⟩ (.slice A21 ys21.length c21)) := ⟨_, rfl⟩
  (try rw [← hw_])
  have hkp : Kept w21 w22 (fun k_ => k_ = gb3) := (by rw [hw_]; exact Kept.setCell (Kept.refl w21 (fun k_ => k_ = gb3)) (.inl rfl) (.slice A21 ys21.length c21))
  have hbn_ : Below w.heap.size w w22 := (by rw [hw_]; exact aE (HB.out) hge_)
  have hbk_ : w22.heap[gb3]? = some (.cells #[.slice A5 l0_0.length c5, .slice A21 ys21.length c21, .int .i64 a0_2, .bool a0_3] 25 (0, 0)) := (by rw [hw_]; exact bE (cs := #[.slice A5 l0_0.length c5, .slice A13 xs13.length c13, .int .i64 a0_2, .bool a0_3]) (cs' := #[.slice A5 l0_0.length c5, .slice A21 ys21.length c21, .int .i64 a0_2, .bool a0_3]) (BK3.out) 1 _ rfl)
  have hsz_ : hi21 ≤ w22.heap.size := Nat.le_trans HT.out hkp.1
  have n0_ := aA.mk (Kd.bF HF0_0.out hkp (fun k_ h1_ h2_ => by have o_ := HORD.out; have t_ := HT.out; (try simp only [In2, Up, In, Ex, Exb] at h1_ h2_); omega))
  have n1_ := aA.mk (Kd.bF HF0_1.out hkp (fun k_ h1_ h2_ => by have o_ := HORD.out; have t_ := HT.out; (try simp only [In2, Up, In, Ex, Exb] at h1_ h2_); omega))
  have n2_ := aA.mk (Kd.bF HF5.out hkp (fun k_ h1_ h2_ => by have o_ := HORD.out; have t_ := HT.out; (try simp only [In2, Up, In, Ex, Exb] at h1_ h2_); omega))
  have n3_ := aA.mk (Kd.S_kept HS5.out hkp (fun k_ h1_ h2_ => by have o_ := HORD.out; have t_ := HT.out; (try simp only [In2, Up, In, Ex, Exb] at h1_ h2_); omega))
  have n4_ := aA.mk (Kd.bF HF14.out hkp (fun k_ h1_ h2_ => by have o_ := HORD.out; have t_ := HT.out; (try simp only [In2, Up, In, Ex, Exb] at h1_ h2_); omega))
  have n5_ := aA.mk (Kd.bF HF21.out hkp (fun k_ h1_ h2_ => by have o_ := HORD.out; have t_ := HT.out; (try simp only [In2, Up, In, Ex, Exb] at h1_ h2_); omega))
  have n6_ := aA.mk (Kd.S_kept HS21.out hkp (fun k_ h1_ h2_ => by have o_ := HORD.out; have t_ := HT.out; (try simp only [In2, Up, In, Ex, Exb] at h1_ h2_); omega))
  have n7_ := aA.mk (bG BK1.out hkp (fun h2_ => by have o_ := HORD.out; have t_ := HT.out; (try simp only [In2, Up, In, Ex, Exb] at h2_); omega))
  have n8_ := aA.mk (bG BK2.out hkp (fun h2_ => by have o_ := HORD.out; have t_ := HT.out; (try simp only [In2, Up, In, Ex, Exb] at h2_); omega))
  have n9_ := aA.mk (bG BK15.out hkp (fun h2_ => by have o_ := HORD.out; have t_ := HT.out; (try simp only [In2, Up, In, Ex, Exb] at h2_); omega))
  have n10_ := aA.mk (hbn_)
  have n11_ := aA.mk (hbk_)
  have n12_ := aA.mk (hsz_)
  (try clear HF0_0)
  (try clear HF0_1)
  (try clear HF5)
  (try clear HS5)
  (try clear HF14)
  (try clear HF21)
  (try clear HS21)
  (try clear BK1)
  (try clear BK2)
  (try clear BK15)
  (try clear HB)
  (try clear BK3)
  (try clear HT)
  have HF0_0 := n0_
  have HF0_1 := n1_
  have HF5 := n2_
  have HS5 := n3_
  have HF14 := n4_
  have HF21 := n5_
  have HS21 := n6_
  have BK1 := n7_
  have BK2 := n8_
  have BK15 := n9_
  have HB := n10_
  have BK3 := n11_
  have HT := n12_
  clear n0_ n1_ n2_ n3_ n4_ n5_ n6_ n7_ n8_ n9_ n10_ n11_ n12_
  clear hw_ hkp hge_ hbn_ hbk_ hsz_
  have hzgb1_0_22 : w22.cell? ⟨gb1, 0, none⟩ = some (.slice A0_0 l0_0.length c0_0) := (aD BK1.out 0).trans rfl
  have hygb1_0_22 := aC BK1.out 0
  have hzgb1_1_22 : w22.cell? ⟨gb1, 1, none⟩ = some (.slice (some ad14) l0_1.length c0_1) := (aD BK1.out 1).trans rfl
  have hygb1_1_22 := aC BK1.out 1
  have hzgb1_2_22 : w22.cell? ⟨gb1, 2, none⟩ = some (.int .i64 a0_2) := (aD BK1.out 2).trans rfl
  have hygb1_2_22 := aC BK1.out 2
  have hzgb1_3_22 : w22.cell? ⟨gb1, 3, none⟩ = some (.bool a0_3) := (aD BK1.out 3).trans rfl
  have hygb1_3_22 := aC BK1.out 3
  have hzgb2_0_22 : w22.cell? ⟨gb2, 0, none⟩ = some (.slice none 0 0) := (aD BK2.out 0).trans rfl
  have hygb2_0_22 := aC BK2.out 0
  have hzgb2_1_22 : w22.cell? ⟨gb2, 1, none⟩ = some (.slice none 0 0) := (aD BK2.out 1).trans rfl
  have hygb2_1_22 := aC BK2.out 1
  have hzgb2_2_22 : w22.cell? ⟨gb2, 2, none⟩ = some (.int .i64 0) := (aD BK2.out 2).trans rfl
  have hygb2_2_22 := aC BK2.out 2
  have hzgb2_3_22 : w22.cell? ⟨gb2, 3, none⟩ = some (.bool false) := (aD BK2.out 3).trans rfl
  have hygb2_3_22 := aC BK2.out 3
  have hzgb3_0_22 : w22.cell? ⟨gb3, 0, none⟩ = some (.slice A5 l0_0.length c5) := (aD BK3.out 0).trans rfl
  have hygb3_0_22 := aC BK3.out 0
  have hzgb3_1_22 : w22.cell? ⟨gb3, 1, none⟩ = some (.slice A21 ys21.length c21) := (aD BK3.out 1).trans rfl
  have hygb3_1_22 := aC BK3.out 1
  have hzgb3_2_22 : w22.cell? ⟨gb3, 2, none⟩ = some (.int .i64 a0_2) := (aD BK3.out 2).trans rfl
  have hygb3_2_22 := aC BK3.out 2
  have hzgb3_3_22 : w22.cell? ⟨gb3, 3, none⟩ = some (.bool a0_3) := (aD BK3.out 3).trans rfl
  have hygb3_3_22 := aC BK3.out 3
  have hzgb15_0_22 : w22.cell? ⟨gb15, 0, none⟩ = some (.int .i64 ((rdW l0_1 x13).f0)) := (aD BK15.out 0).trans rfl
  have hygb15_0_22 := aC BK15.out 0
  have hzgb15_1_22 : w22.cell? ⟨gb15, 1, none⟩ = some (.slice Ae14 ((rdW l0_1 x13).f1).length ce14) := (aD BK15.out 1).trans rfl
  have hygb15_1_22 := aC BK15.out 1
  try go_wp2
  go_roundg k1
  case measure => omega
  case rel => exact ⟨i13 + 1, _, _, rfl, ⟨show _ = ((i13 + 1 : Nat) : Int) by have := HI13.out; have hm_ := Kd.F_max HF0_1.out; have := HK13.out; first | (rw [w64 (by omega) (by omega)]; omega) | omega⟩, ⟨by have := HK13.out; omega⟩, ⟨Nat.le_trans (by have o_ := HORD.out; omega) HT.out⟩, ⟨by rw [show l0_1.take (i13 + 1) = ys21 from (by rw [HY21.out, HX13.out]; unfold rdW; rw [show x13.toNat = i13 from by have := HI13.out; omega]; exact take_getD _ _ z50 (by have := HK13.out; omega))]; exact Kd.S_mono (Kd.S_lower HS21.out (by have o_ := HORD.out; omega)) (fun k_ hk_ => by have o_ := HORD.out; have t_ := HT.out; (try simp only [In2, Up, In, Ex, Exb] at hk_ ⊢); omega)⟩, HF0_0, HF0_1, HF5, HS5, BK1, BK2, BK3, HB⟩
 have hi0_ : i13 = l0_1.length := (by have := HK13.out; omega)
 have hd_ : decide (x13 < (l0_1.length : Int)) = false := decide_eq_false (by have := HI13.out; omega)
 have eall_ : xs13 = l0_1 := (by rw [HX13.out, hi0_, List.take_length])
 rw [eall_] at HS13 HF13 HC13 BK3
 have hzgb1_0_22 : wr.cell? ⟨gb1, 0, none⟩ = some (.slice A0_0 l0_0.length c0_0) := (aD BK1.out 0).trans rfl
 have hygb1_0_22 := aC BK1.out 0
 have hzgb1_1_22 : wr.cell? ⟨gb1, 1, none⟩ = some (.slice A0_1 l0_1.length c0_1) := (aD BK1.out 1).trans rfl
 have hygb1_1_22 := aC BK1.out 1
 have hzgb1_2_22 : wr.cell? ⟨gb1, 2, none⟩ = some (.int .i64 a0_2) := (aD BK1.out 2).trans rfl
 have hygb1_2_22 := aC BK1.out 2
 have hzgb1_3_22 : wr.cell? ⟨gb1, 3, none⟩ = some (.bool a0_3) := (aD BK1.out 3).trans rfl
 have hygb1_3_22 := aC BK1.out 3
 have hzgb2_0_22 : wr.cell? ⟨gb2, 0, none⟩ = some (.slice none 0 0) := (aD BK2.out 0).trans rfl
 have hygb2_0_22 := aC BK2.out 0
 have hzgb2_1_22 : wr.cell? ⟨gb2, 1, none⟩ = some (.slice none 0 0) := (aD BK2.out 1).trans rfl
 have hygb2_1_22 := aC BK2.out 1
 have hzgb2_2_22 : wr.cell? ⟨gb2, 2, none⟩ = some (.int .i64 0) := (aD BK2.out 2).trans rfl
 have hygb2_2_22 := aC BK2.out 2
 have hzgb2_3_22 : wr.cell? ⟨gb2, 3, none⟩ = some (.bool false) := (aD BK2.out 3).trans rfl
 have hygb2_3_22 := aC BK2.out 3
 have hzgb3_0_22 : wr.cell? ⟨gb3, 0, none⟩ = some (.slice A5 l0_0.length c5) := (aD BK3.out 0).trans rfl
 have hygb3_0_22 := aC BK3.out 0
 have hzgb3_1_22 : wr.cell? ⟨gb3, 1, none⟩ = some (.slice A13 l0_1.length c13) := (aD BK3.out 1).trans rfl
 have hygb3_1_22 := aC BK3.out 1
 have hzgb3_2_22 : wr.cell? ⟨gb3, 2, none⟩ = some (.int .i64 a0_2) := (aD BK3.out 2).trans rfl
 have hygb3_2_22 := aC BK3.out 2
 have hzgb3_3_22 : wr.cell? ⟨gb3, 3, none⟩ = some (.bool a0_3) := (aD BK3.out 3).trans rfl
 have hygb3_3_22 := aC BK3.out 3
 go_wp2_with (first | ((with_reducible refine gate_store (t := 25) (p := 2) rfl ?_); refine store_event (t := 25) (p := 2) (v := ?vo_w23) (w1 := ((((wr.setCell ⟨gb2, 0, none⟩ (.slice A5 l0_0.length c5)).setCell ⟨gb2, 1, none⟩ (.slice A13 l0_1.length c13)).setCell ⟨gb2, 2, none⟩ (.int .i64 a0_2)).setCell ⟨gb2, 3, none⟩ (.bool a0_3))) ?hg ?ho ?hn ?hr ?_; (case ho => rfl); (case hg => rfl); (case hn => rfl); (case hr => first | (go_simp; done) | (go_simp; rfl)); intro w23 hw_; have hkp : Kept wr w23 (fun k_ => k_ = gb2) := (by rw [hw_]; exact Kept.setCell (Kept.setCell (Kept.setCell (Kept.setCell (Kept.refl wr (fun k_ => k_ = gb2)) (.inl rfl) (.slice A5 l0_0.length c5)) (.inl rfl) (.slice A13 l0_1.length c13)) (.inl rfl) (.int .i64 a0_2)) (.inl rfl) (.bool a0_3)); have hge_ : w.heap.size ≤ gb2 := (by have o_ := HORD.out; (try unfold In at *); (try show _ ≠ _); omega); have hbn_ : Below w.heap.size w w23 := (by rw [hw_]; exact aE (aE (aE (aE (HB.out) hge_) hge_) hge_) hge_); have hbk_ : w23.heap[gb2]? = some (.cells #[.slice A5 l0_0.length c5, .slice A13 l0_1.length c13, .int .i64 a0_2, .bool a0_3] 25 (0, 0)) := (by rw [hw_]; exact bE (cs := #[.slice A5 l0_0.length c5, .slice A13 l0_1.length c13, .int .i64 a0_2, .bool false]) (cs' := #[.slice A5 l0_0.length c5, .slice A13 l0_1.length c13, .int .i64 a0_2, .bool a0_3]) (bE (cs := #[.slice A5 l0_0.length c5, .slice A13 l0_1.length c13, .int .i64 0, .bool false]) (cs' := #[.slice A5 l0_0.length c5, .slice A13 l0_1.length c13, .int .i64 a0_2, .bool false]) (bE (cs := #[.slice A5 l0_0.length c5, .slice none 0 0, .int .i64 0, .bool false]) (cs' := #[.slice A5 l0_0.length c5, .slice A13 l0_1.length c13, .int .i64 0, .bool false]) (bE (cs := #[.slice none 0 0, .slice none 0 0, .int .i64 0, .bool false]) (cs' := #[.slice A5 l0_0.length c5, .slice none 0 0, .int .i64 0, .bool false]) (BK2.out) 0 _ rfl) 1 _ rfl) 2 _ rfl) 3 _ rfl); have hsz_ : hi13 ≤ w23.heap.size := Nat.le_trans HT.out hkp.1; have n0_ := aA.mk (Kd.bF HF0_0.out hkp (fun k_ h1_ h2_ => by have o_ := HORD.out; have t_ := HT.out; (try simp only [In2, Up, In, Ex, Exb] at h1_ h2_); omega)); have n1_ := aA.mk (Kd.bF HF0_1.out hkp (fun k_ h1_ h2_ => by have o_ := HORD.out; have t_ := HT.out; (try simp only [In2, Up, In, Ex, Exb] at h1_ h2_); omega)); have n2_ := aA.mk (Kd.bF HF5.out hkp (fun k_ h1_ h2_ => by have o_ := HORD.out; have t_ := HT.out; (try simp only [In2, Up, In, Ex, Exb] at h1_ h2_); omega)); have n3_ := aA.mk (Kd.S_kept HS5.out hkp (fun k_ h1_ h2_ => by have o_ := HORD.out; have t_ := HT.out; (try simp only [In2, Up, In, Ex, Exb] at h1_ h2_); omega)); have n4_ := aA.mk (Kd.bF HF13.out hkp (fun k_ h1_ h2_ => by have o_ := HORD.out; have t_ := HT.out; (try simp only [In2, Up, In, Ex, Exb] at h1_ h2_); omega)); have n5_ := aA.mk (Kd.S_kept HS13.out hkp (fun k_ h1_ h2_ => by have o_ := HORD.out; have t_ := HT.out; (try simp only [In2, Up, In, Ex, Exb] at h1_ h2_); omega)); have n6_ := aA.mk (bG BK1.out hkp (fun h2_ => by have o_ := HORD.out; have t_ := HT.out; (try simp only [In2, Up, In, Ex, Exb] at h2_); omega)); have n7_ := aA.mk (bG BK3.out hkp (fun h2_ => by have o_ := HORD.out; have t_ := HT.out; (try simp only [In2, Up, In, Ex, Exb] at h2_); omega)); have n8_ := aA.mk (hbn_); have n9_ := aA.mk (hbk_); have n10_ := aA.mk (hsz_); (try clear HF0_0); (try clear HF0_1); (try clear HF5); (try clear HS5); (try clear HF13); (try clear HS13); (try clear BK1); (try clear BK3); (try clear HB); (try clear BK2); (try clear HT); have HF0_0 := n0_; have HF0_1 := n1_; have HF5 := n2_; have HS5 := n3_; have HF13 := n4_; have HS13 := n5_; have BK1 := n6_; have BK3 := n7_; have HB := n8_; have BK2 := n9_; have HT := n10_; clear n0_ n1_ n2_ n3_ n4_ n5_ n6_ n7_ n8_ n9_ n10_; clear hw_ hkp hge_ hbn_ hbk_ hsz_; have hzgb1_0_23 : w23.cell? ⟨gb1, 0, none⟩ = some (.slice A0_0 l0_0.length c0_0) := (aD BK1.out 0).trans rfl; have hygb1_0_23 := aC BK1.out 0; have hzgb1_1_23 : w23.cell? ⟨gb1, 1, none⟩ = some (.slice A0_1 l0_1.length c0_1) := (aD BK1.out 1).trans rfl; have hygb1_1_23 := aC BK1.out 1; have hzgb1_2_23 : w23.cell? ⟨gb1, 2, none⟩ = some (.int .i64 a0_2) := (aD BK1.out 2).trans rfl; have hygb1_2_23 := aC BK1.out 2; have hzgb1_3_23 : w23.cell? ⟨gb1, 3, none⟩ = some (.bool a0_3) := (aD BK1.out 3).trans rfl; have hygb1_3_23 := aC BK1.out 3; have hzgb2_0_23 : w23.cell? ⟨gb2, 0, none⟩ = some (.slice A5 l0_0.length c5) := (aD BK2.out 0).trans rfl; have hygb2_0_23 := aC BK2.out 0; have hzgb2_1_23 : w23.cell? ⟨gb2, 1, none⟩ = some (.slice A13 l0_1.length c13) := (aD BK2.out 1).trans rfl; have hygb2_1_23 := aC BK2.out 1; have hzgb2_2_23 : w23.cell? ⟨gb2, 2, none⟩ = some (.int .i64 a0_2) := (aD BK2.out 2).trans rfl; have hygb2_2_23 := aC BK2.out 2; have hzgb2_3_23 : w23.cell? ⟨gb2, 3, none⟩ = some (.bool a0_3) := (aD BK2.out 3).trans rfl; have hygb2_3_23 := aC BK2.out 3; have hzgb3_0_23 : w23.cell? ⟨gb3, 0, none⟩ = some (.slice A5 l0_0.length c5) := (aD BK3.out 0).trans rfl; have hygb3_0_23 := aC BK3.out 0; have hzgb3_1_23 : w23.cell? ⟨gb3, 1, none⟩ = some (.slice A13 l0_1.length c13) := (aD BK3.out 1).trans rfl; have hygb3_1_23 := aC BK3.out 1; have hzgb3_2_23 : w23.cell? ⟨gb3, 2, none⟩ = some (.int .i64 a0_2) := (aD BK3.out 2).trans rfl; have hygb3_2_23 := aC BK3.out 2; have hzgb3_3_23 : w23.cell? ⟨gb3, 3, none⟩ = some (.bool a0_3) := (aD BK3.out 3).trans rfl; have hygb3_3_23 := aC BK3.out 3))
 refine bodyPost_ret (fn := Try.f58) (P := Try.prog) (results_cell_row rfl _ _ gb2 25 #[.slice A5 l0_0.length c5, .slice A13 l0_1.length c13, .int .i64 a0_2, .bool a0_3] (0, 0) _ rfl BK2.out Try.underlying25 rfl (by kernel_rfl)) rfl ?_
 first | exact ⟨_, _, hi5, rfl, (by have o_ := HORD.out; omega), (by have o_ := HORD.out; have t_ := HT.out; omega), Kd.S_mono (Kd.S_lower HS5.out (by have o_ := HORD.out; omega)) (fun k_ hk_ => by have o_ := HORD.out; have t_ := HT.out; (try simp only [In2, Up, In] at hk_ ⊢); omega), Kd.S_mono (Kd.S_lower HS13.out (by have o_ := HORD.out; omega)) (fun k_ hk_ => by have o_ := HORD.out; have t_ := HT.out; (try simp only [In2, Up, In] at hk_ ⊢); omega), HB.out⟩ | exact ⟨_, _, rfl, hi5, (by have o_ := HORD.out; omega), (by have o_ := HORD.out; have t_ := HT.out; omega), Kd.S_mono (Kd.S_lower HS5.out (by have o_ := HORD.out; omega)) (fun k_ hk_ => by have o_ := HORD.out; have t_ := HT.out; (try simp only [In2, Up, In] at hk_ ⊢); omega), Kd.S_mono (Kd.S_lower HS13.out (by have o_ := HORD.out; omega)) (fun k_ hk_ => by have o_ := HORD.out; have t_ := HT.out; (try simp only [In2, Up, In] at hk_ ⊢); omega), HB.out⟩
def impl_copyDevS.f (l0_0 : List (List Int)) (l0_1 : List (S50)) (a0_2 : Int) (a0_3 : Bool) : Option (List (List Int) × List (S50) × Int × Bool) := if okDevB l0_0 l0_1 = true then some (l0_0, l0_1, a0_2, a0_3) else none
theorem impl_copyDevS.calls (P0_0_ : Nat → Prop) (A0_0 : Option Addr) (c0_0 : Nat) (l0_0 : List (List Int)) (P0_1_ : Nat → Prop) (A0_1 : Option Addr) (c0_1 : Nat) (l0_1 : List (S50)) (a0_2 : Int) (a0_3 : Bool) (r1 : List (List Int)) (r2 : List (S50)) (r3 : Int) (r4 : Bool) (w : World) (hs0_0 : Kd.V (Kd.slice 5 (Kd.int .u8)) 37 w w.heap.size (fun k_ => P0_0_ k_) (.slice A0_0 l0_0.length c0_0) l0_0) (hs0_1 : Kd.V k50 50 w w.heap.size (fun k_ => P0_1_ k_) (.slice A0_1 l0_1.length c0_1) l0_1) (h : impl_copyDevS.f l0_0 l0_1 a0_2 a0_3 = some (r1, r2, r3, r4)) :
  Calls Try.prog 58 #[.agg #[.slice A0_0 l0_0.length c0_0, .slice A0_1 l0_1.length c0_1, .int .i64 a0_2, .bool a0_3]] w fun e w' => ∃ v0_ v1_ : Value, ∃ m_ : Nat, e = .returned (.agg #[v0_, v1_, .int .i64 r3, .bool r4]) ∧ w.heap.size ≤ m_ ∧ m_ ≤ w'.heap.size ∧ Kd.S (Kd.slice 5 (Kd.int .u8)) 37 w' w.heap.size (In w.heap.size m_) v0_ r1 ∧ Kd.S k50 50 w' w.heap.size (In m_ w'.heap.size) v1_ r2 ∧ Below w.heap.size w w' := by
 obtain ⟨_, hc0_, hf0_⟩ := Kd.V_at hs0_0
 obtain ⟨_, hc1_, hf1_⟩ := Kd.V_at hs0_1
 replace hf0_ := Kd.F_mono (ok' := In 0 w.heap.size) (Kd.F_bound hf0_) (fun k hk => ⟨Nat.zero_le k, hk.2⟩)
 replace hf1_ := Kd.F_mono (ok' := In 0 w.heap.size) (Kd.F_bound hf1_) (fun k hk => ⟨Nat.zero_le k, hk.2⟩)
 unfold impl_copyDevS.f at h
 split at h
 ·rename_i hok
  unfold okDevB at hok
  simp only [Bool.and_eq_true, decide_eq_true_eq] at hok
  obtain ⟨hok0, hok1⟩ := hok
  injection h with h
  simp only [Prod.mk.injEq] at h
  obtain ⟨rfl, rfl, rfl, rfl⟩ := h
  exact walk_copyDev _ _ _ _ _ _ _ _ w hf0_ hc0_ hf1_ hc1_ hok0 hok1
 ·cases h
theorem copyDevS_f {l : List (List Int)} {m : List (S50)} (h : okByteSS l) (h2 : okWrS m) (a : Int) (b : Bool) : impl_copyDevS.f l m a b = some (l, m, a, b) := by
 unfold impl_copyDevS.f okDevB
 unfold okByteSS at h
 unfold okWrS at h2
 rw [if_pos (by simp [h, h2])]
set_option maxHeartbeats 8000000 in
set_option maxRecDepth 100000 in
theorem walk_FallDev1 (A0_0 : Option Addr) (c0_0 : Nat) (l0_0 : List (List (Int))) (A0_1 : Option Addr) (c0_1 : Nat) (l0_1 : List (S50)) (a0_2 : Int) (a0_3 : Bool) (a1 : Int) (w : World) (hf0_0 : Kd.F (Kd.slice 5 (Kd.int .u8)) w (In 0 w.heap.size) A0_0 l0_0.length l0_0) (hc0_0 : l0_0.length ≤ c0_0) (hf0_1 : Kd.F k50 w (In 0 w.heap.size) A0_1 l0_1.length l0_1) (hc0_1 : l0_1.length ≤ c0_1) (hok0 : okByteSS l0_0) (hok1 : okWrS l0_1) (hdo : devOkB l0_0 l0_1 a0_2 = false) :
  Calls Try.prog 32 #[.agg #[.slice A0_0 l0_0.length c0_0, .slice A0_1 l0_1.length c0_1, .int .i64 a0_2, .bool a0_3], .int .i64 a1] w fun e w' => ∃ v0_ v1_ : Value, ∃ m_ : Nat, e = .returned (.agg #[v0_, v1_, .int .i64 a0_2, .bool a0_3]) ∧ w.heap.size ≤ m_ ∧ m_ ≤ w'.heap.size ∧ Kd.S (Kd.slice 5 (Kd.int .u8)) 37 w' w.heap.size (In w.heap.size m_) v0_ l0_0 ∧ Kd.S k50 50 w' w.heap.size (In m_ w'.heap.size) v1_ l0_1 ∧ Below w.heap.size w w' := by
 have hu25 := Try.underlying25
 have hu50 := Try.underlying50
 have HF0_0 := aA.mk hf0_0
 have HC0_0 := aA.mk hc0_0
 clear hf0_0 hc0_0
 have HF0_1 := aA.mk hf0_1
 have HC0_1 := aA.mk hc0_1
 clear hf0_1 hc0_1
 have HB := aA.mk (Below.refl w.heap.size w)
 have HORD := aA.mk (Nat.le_refl w.heap.size)
 have HT := aA.mk (Nat.le_refl w.heap.size)
 have JC := aA.mk (copyDevS_f hok0 hok1 a0_2 a0_3)
 obtain ⟨kd, hd0_⟩ := evGet (impl_DevOk_ev l0_0 l0_1 a0_2 a0_3 hok0 hok1)
 rw [hdo] at hd0_
 have JD := aA.mk hd0_
 clear hd0_
 go_enter Try.func32, Try.ntmps32
 go_wp2_with (first | ((with_reducible refine gate_dst (N := 2) rfl ?_); refine box_event ?hg (N := 2) ?hd (cs := #[.slice A0_0 l0_0.length c0_0, .slice A0_1 l0_1.length c0_1, .int .i64 a0_2, .bool a0_3]) (t := 25) ?hr ?_; (case hd => rfl); (case hg => rfl); (case hr => first | (go_simp; done) | (go_simp; rfl)); intro gb1 hg_ w1 hbox hb; have hge_ : w.heap.size ≤ gb1 := (by rw [hg_]; exact HT.out); have hlt_ : gb1 + 1 ≤ w1.heap.size := blk_lt hbox; have n0_ := aA.mk (Kd.aZ HF0_0.out hb); have n1_ := aA.mk (Kd.aZ HF0_1.out hb); have n2_ := aA.mk (bD HB.out hb); have n3_ := aA.mk (hbox); have n4_ := aA.mk (And.intro HORD.out (And.intro hge_ (Nat.le_succ gb1))); have n5_ := aA.mk (hlt_); (try clear HF0_0); (try clear HF0_1); (try clear HB); (try clear BK1); (try clear HORD); (try clear HT); have HF0_0 := n0_; have HF0_1 := n1_; have HB := n2_; have BK1 := n3_; have HORD := n4_; have HT := n5_; clear n0_ n1_ n2_ n3_ n4_ n5_; clear hb hbox hg_ hge_ hlt_; have hzgb1_0_1 : w1.cell? ⟨gb1, 0, none⟩ = some (.slice A0_0 l0_0.length c0_0) := (aD BK1.out 0).trans rfl; have hygb1_0_1 := aC BK1.out 0; have hzgb1_1_1 : w1.cell? ⟨gb1, 1, none⟩ = some (.slice A0_1 l0_1.length c0_1) := (aD BK1.out 1).trans rfl; have hygb1_1_1 := aC BK1.out 1; have hzgb1_2_1 : w1.cell? ⟨gb1, 2, none⟩ = some (.int .i64 a0_2) := (aD BK1.out 2).trans rfl; have hygb1_2_1 := aC BK1.out 2; have hzgb1_3_1 : w1.cell? ⟨gb1, 3, none⟩ = some (.bool a0_3) := (aD BK1.out 3).trans rfl; have hygb1_3_1 := aC BK1.out 3) | ((with_reducible refine gate_dst (N := 4) rfl ?_); refine box_event ?hg (N := 4) ?hd (cs := #[.slice none 0 0, .slice none 0 0, .int .i64 0, .bool false]) (t := 25) ?hr ?_; (case hd => rfl); (case hg => rfl); (case hr => first | (go_simp; done) | (go_simp; rfl)); intro gb2 hg_ w2 hbox hb; have hge_ : (gb1 + 1) ≤ gb2 := (by rw [hg_]; exact HT.out); have hlt_ : gb2 + 1 ≤ w2.heap.size := blk_lt hbox; have n0_ := aA.mk (Kd.aZ HF0_0.out hb); have n1_ := aA.mk (Kd.aZ HF0_1.out hb); have n2_ := aA.mk (aW BK1.out hb); have n3_ := aA.mk (bD HB.out hb); have n4_ := aA.mk (hbox); have n5_ := aA.mk (And.intro HORD.out (And.intro hge_ (Nat.le_succ gb2))); have n6_ := aA.mk (hlt_); (try clear HF0_0); (try clear HF0_1); (try clear BK1); (try clear HB); (try clear BK2); (try clear HORD); (try clear HT); have HF0_0 := n0_; have HF0_1 := n1_; have BK1 := n2_; have HB := n3_; have BK2 := n4_; have HORD := n5_; have HT := n6_; clear n0_ n1_ n2_ n3_ n4_ n5_ n6_; clear hb hbox hg_ hge_ hlt_; have hzgb1_0_2 : w2.cell? ⟨gb1, 0, none⟩ = some (.slice A0_0 l0_0.length c0_0) := (aD BK1.out 0).trans rfl; have hygb1_0_2 := aC BK1.out 0; have hzgb1_1_2 : w2.cell? ⟨gb1, 1, none⟩ = some (.slice A0_1 l0_1.length c0_1) := (aD BK1.out 1).trans rfl; have hygb1_1_2 := aC BK1.out 1; have hzgb1_2_2 : w2.cell? ⟨gb1, 2, none⟩ = some (.int .i64 a0_2) := (aD BK1.out 2).trans rfl; have hygb1_2_2 := aC BK1.out 2; have hzgb1_3_2 : w2.cell? ⟨gb1, 3, none⟩ = some (.bool a0_3) := (aD BK1.out 3).trans rfl; have hygb1_3_2 := aC BK1.out 3; have hzgb2_0_2 : w2.cell? ⟨gb2, 0, none⟩ = some (.slice none 0 0) := (aD BK2.out 0).trans rfl; have hygb2_0_2 := aC BK2.out 0; have hzgb2_1_2 : w2.cell? ⟨gb2, 1, none⟩ = some (.slice none 0 0) := (aD BK2.out 1).trans rfl; have hygb2_1_2 := aC BK2.out 1; have hzgb2_2_2 : w2.cell? ⟨gb2, 2, none⟩ = some (.int .i64 0) := (aD BK2.out 2).trans rfl; have hygb2_2_2 := aC BK2.out 2; have hzgb2_3_2 : w2.cell? ⟨gb2, 3, none⟩ = some (.bool false) := (aD BK2.out 3).trans rfl; have hygb2_3_2 := aC BK2.out 3) | ((with_reducible refine bJ (f := 58) rfl ?_); refine goesL_ (some 9) rfl rfl Try.func58 (by kernel_rfl) rfl #[.agg #[.slice A0_0 l0_0.length c0_0, .slice A0_1 l0_1.length c0_1, .int .i64 a0_2, .bool a0_3]] rfl (by (try simp only [List.map_toArray, List.map_cons, List.map_nil]); first | done | rfl | (simp only [List.length_drop, List.length_take]; rfl)) ?_; (with_reducible refine (impl_copyDevS.calls (In 0 w.heap.size) _ _ l0_0 (In 0 w.heap.size) _ _ l0_1 a0_2 a0_3 l0_0 l0_1 a0_2 a0_3 _ ?s1 ?s2 JC.out).mono ?_); (case s1 => exact ⟨_, _, rfl, HC0_0.out, HF0_0.out⟩); (case s2 => exact ⟨_, _, rfl, HC0_1.out, HF0_1.out⟩); rintro e_ w3 ⟨v0_, v1_, mm3, rfl, hm1_, hm2_, ho0, ho1, hb⟩; refine ⟨_, rfl, ?_⟩; obtain ⟨lo3, hi3, el_, eh_, ol_, oh_⟩ := Mem.times HT.out hb; rw [← el_] at hm1_; rw [← eh_] at hm2_; rw [← el_] at ho0; obtain ⟨A3_0, c3_0, ev_, hc0_, hf0_, hs0_⟩ := new_SI2 ho0; subst ev_; rw [← eh_] at ho1; (try rw [← el_] at ho1); obtain ⟨A3_1, c3_1, ev_, hc1_, hf1_, hs1_⟩ := new_SI2 ho1; subst ev_; have n0_ := aA.mk (Kd.aZ HF0_0.out hb); have n1_ := aA.mk (Kd.aZ HF0_1.out hb); have n2_ := aA.mk (aW BK1.out hb); have n3_ := aA.mk (aW BK2.out hb); have n4_ := aA.mk (bD HB.out hb); have n5_ := aA.mk (hf0_); have n6_ := aA.mk (hc0_); have n7_ := aA.mk (hs0_); have n8_ := aA.mk (hf1_); have n9_ := aA.mk (hc1_); have n10_ := aA.mk (hs1_); have n11_ := aA.mk (And.intro HORD.out (And.intro ol_ (And.intro hm1_ hm2_))); have n12_ := aA.mk (Nat.le_of_eq eh_); (try clear HF0_0); (try clear HF0_1); (try clear BK1); (try clear BK2); (try clear HB); (try clear HF3_0); (try clear HC3_0); (try clear HS3_0); (try clear HF3_1); (try clear HC3_1); (try clear HS3_1); (try clear HORD); (try clear HT); have HF0_0 := n0_; have HF0_1 := n1_; have BK1 := n2_; have BK2 := n3_; have HB := n4_; have HF3_0 := n5_; have HC3_0 := n6_; have HS3_0 := n7_; have HF3_1 := n8_; have HC3_1 := n9_; have HS3_1 := n10_; have HORD := n11_; have HT := n12_; clear n0_ n1_ n2_ n3_ n4_ n5_ n6_ n7_ n8_ n9_ n10_ n11_ n12_; clear hm1_ hm2_; clear ol_ oh_ el_ eh_ ho0 hf0_ hc0_ hs0_ ho1 hf1_ hc1_ hs1_; (try clear hb); have hzgb1_0_3 : w3.cell? ⟨gb1, 0, none⟩ = some (.slice A0_0 l0_0.length c0_0) := (aD BK1.out 0).trans rfl; have hygb1_0_3 := aC BK1.out 0; have hzgb1_1_3 : w3.cell? ⟨gb1, 1, none⟩ = some (.slice A0_1 l0_1.length c0_1) := (aD BK1.out 1).trans rfl; have hygb1_1_3 := aC BK1.out 1; have hzgb1_2_3 : w3.cell? ⟨gb1, 2, none⟩ = some (.int .i64 a0_2) := (aD BK1.out 2).trans rfl; have hygb1_2_3 := aC BK1.out 2; have hzgb1_3_3 : w3.cell? ⟨gb1, 3, none⟩ = some (.bool a0_3) := (aD BK1.out 3).trans rfl; have hygb1_3_3 := aC BK1.out 3; have hzgb2_0_3 : w3.cell? ⟨gb2, 0, none⟩ = some (.slice none 0 0) := (aD BK2.out 0).trans rfl; have hygb2_0_3 := aC BK2.out 0; have hzgb2_1_3 : w3.cell? ⟨gb2, 1, none⟩ = some (.slice none 0 0) := (aD BK2.out 1).trans rfl; have hygb2_1_3 := aC BK2.out 1; have hzgb2_2_3 : w3.cell? ⟨gb2, 2, none⟩ = some (.int .i64 0) := (aD BK2.out 2).trans rfl; have hygb2_2_3 := aC BK2.out 2; have hzgb2_3_3 : w3.cell? ⟨gb2, 3, none⟩ = some (.bool false) := (aD BK2.out 3).trans rfl; have hygb2_3_3 := aC BK2.out 3) | ((with_reducible refine gate_dst (N := 5) rfl ?_); refine box_event ?hg (N := 5) ?hd (cs := #[.slice none 0 0, .slice none 0 0, .int .i64 0, .bool false]) (t := 25) ?hr ?_; (case hd => rfl); (case hg => rfl); (case hr => first | (go_simp; done) | (go_simp; rfl)); intro gb4 hg_ w4 hbox hb; have hge_ : hi3 ≤ gb4 := (by rw [hg_]; exact HT.out); have hlt_ : gb4 + 1 ≤ w4.heap.size := blk_lt hbox; have n0_ := aA.mk (Kd.aZ HF0_0.out hb); have n1_ := aA.mk (Kd.aZ HF0_1.out hb); have n2_ := aA.mk (Kd.aZ HF3_0.out hb); have n3_ := aA.mk (Kd.S_below HS3_0.out hb); have n4_ := aA.mk (Kd.aZ HF3_1.out hb); have n5_ := aA.mk (Kd.S_below HS3_1.out hb); have n6_ := aA.mk (aW BK1.out hb); have n7_ := aA.mk (aW BK2.out hb); have n8_ := aA.mk (bD HB.out hb); have n9_ := aA.mk (hbox); have n10_ := aA.mk (And.intro HORD.out (And.intro hge_ (Nat.le_succ gb4))); have n11_ := aA.mk (hlt_); (try clear HF0_0); (try clear HF0_1); (try clear HF3_0); (try clear HS3_0); (try clear HF3_1); (try clear HS3_1); (try clear BK1); (try clear BK2); (try clear HB); (try clear BK4); (try clear HORD); (try clear HT); have HF0_0 := n0_; have HF0_1 := n1_; have HF3_0 := n2_; have HS3_0 := n3_; have HF3_1 := n4_; have HS3_1 := n5_; have BK1 := n6_; have BK2 := n7_; have HB := n8_; have BK4 := n9_; have HORD := n10_; have HT := n11_; clear n0_ n1_ n2_ n3_ n4_ n5_ n6_ n7_ n8_ n9_ n10_ n11_; clear hb hbox hg_ hge_ hlt_; have hzgb1_0_4 : w4.cell? ⟨gb1, 0, none⟩ = some (.slice A0_0 l0_0.length c0_0) := (aD BK1.out 0).trans rfl; have hygb1_0_4 := aC BK1.out 0; have hzgb1_1_4 : w4.cell? ⟨gb1, 1, none⟩ = some (.slice A0_1 l0_1.length c0_1) := (aD BK1.out 1).trans rfl; have hygb1_1_4 := aC BK1.out 1; have hzgb1_2_4 : w4.cell? ⟨gb1, 2, none⟩ = some (.int .i64 a0_2) := (aD BK1.out 2).trans rfl; have hygb1_2_4 := aC BK1.out 2; have hzgb1_3_4 : w4.cell? ⟨gb1, 3, none⟩ = some (.bool a0_3) := (aD BK1.out 3).trans rfl; have hygb1_3_4 := aC BK1.out 3; have hzgb2_0_4 : w4.cell? ⟨gb2, 0, none⟩ = some (.slice none 0 0) := (aD BK2.out 0).trans rfl; have hygb2_0_4 := aC BK2.out 0; have hzgb2_1_4 : w4.cell? ⟨gb2, 1, none⟩ = some (.slice none 0 0) := (aD BK2.out 1).trans rfl; have hygb2_1_4 := aC BK2.out 1; have hzgb2_2_4 : w4.cell? ⟨gb2, 2, none⟩ = some (.int .i64 0) := (aD BK2.out 2).trans rfl; have hygb2_2_4 := aC BK2.out 2; have hzgb2_3_4 : w4.cell? ⟨gb2, 3, none⟩ = some (.bool false) := (aD BK2.out 3).trans rfl; have hygb2_3_4 := aC BK2.out 3; have hzgb4_0_4 : w4.cell? ⟨gb4, 0, none⟩ = some (.slice none 0 0) := (aD BK4.out 0).trans rfl; have hygb4_0_4 := aC BK4.out 0; have hzgb4_1_4 : w4.cell? ⟨gb4, 1, none⟩ = some (.slice none 0 0) := (aD BK4.out 1).trans rfl; have hygb4_1_4 := aC BK4.out 1; have hzgb4_2_4 : w4.cell? ⟨gb4, 2, none⟩ = some (.int .i64 0) := (aD BK4.out 2).trans rfl; have hygb4_2_4 := aC BK4.out 2; have hzgb4_3_4 : w4.cell? ⟨gb4, 3, none⟩ = some (.bool false) := (aD BK4.out 3).trans rfl; have hygb4_3_4 := aC BK4.out 3) | ((with_reducible refine gate_store (t := 25) (p := 5) rfl ?_); refine store_event (t := 25) (p := 5) (v := ?vo_w5) (w1 := ((((w4.setCell ⟨gb4, 0, none⟩ (.slice A3_0 l0_0.length c3_0)).setCell ⟨gb4, 1, none⟩ (.slice A3_1 l0_1.length c3_1)).setCell ⟨gb4, 2, none⟩ (.int .i64 a0_2)).setCell ⟨gb4, 3, none⟩ (.bool a0_3))) ?hg ?ho ?hn ?hr ?_; (case ho => rfl); (case hg => rfl); (case hn => rfl); (case hr => first | (go_simp; done) | (go_simp; rfl)); intro w5 hw_; have hkp : Kept w4 w5 (fun k_ => k_ = gb4) := (by rw [hw_]; exact Kept.setCell (Kept.setCell (Kept.setCell (Kept.setCell (Kept.refl w4 (fun k_ => k_ = gb4)) (.inl rfl) (.slice A3_0 l0_0.length c3_0)) (.inl rfl) (.slice A3_1 l0_1.length c3_1)) (.inl rfl) (.int .i64 a0_2)) (.inl rfl) (.bool a0_3)); have hge_ : w.heap.size ≤ gb4 := (by have o_ := HORD.out; (try unfold In at *); (try show _ ≠ _); omega); have hbn_ : Below w.heap.size w w5 := (by rw [hw_]; exact aE (aE (aE (aE (HB.out) hge_) hge_) hge_) hge_); have hbk_ : w5.heap[gb4]? = some (.cells #[.slice A3_0 l0_0.length c3_0, .slice A3_1 l0_1.length c3_1, .int .i64 a0_2, .bool a0_3] 25 (0, 0)) := (by rw [hw_]; exact bE (cs := #[.slice A3_0 l0_0.length c3_0, .slice A3_1 l0_1.length c3_1, .int .i64 a0_2, .bool false]) (cs' := #[.slice A3_0 l0_0.length c3_0, .slice A3_1 l0_1.length c3_1, .int .i64 a0_2, .bool a0_3]) (bE (cs := #[.slice A3_0 l0_0.length c3_0, .slice A3_1 l0_1.length c3_1, .int .i64 0, .bool false]) (cs' := #[.slice A3_0 l0_0.length c3_0, .slice A3_1 l0_1.length c3_1, .int .i64 a0_2, .bool false]) (bE (cs := #[.slice A3_0 l0_0.length c3_0, .slice none 0 0, .int .i64 0, .bool false]) (cs' := #[.slice A3_0 l0_0.length c3_0, .slice A3_1 l0_1.length c3_1, .int .i64 0, .bool false]) (bE (cs := #[.slice none 0 0, .slice none 0 0, .int .i64 0, .bool false]) (cs' := #[.slice A3_0 l0_0.length c3_0, .slice none 0 0, .int .i64 0, .bool false]) (BK4.out) 0 _ rfl) 1 _ rfl) 2 _ rfl) 3 _ rfl); have hsz_ : (gb4 + 1) ≤ w5.heap.size := Nat.le_trans HT.out hkp.1; have n0_ := aA.mk (Kd.bF HF0_0.out hkp (fun k_ h1_ h2_ => by have o_ := HORD.out; have t_ := HT.out; (try simp only [In2, Up, In, Ex, Exb] at h1_ h2_); omega)); have n1_ := aA.mk (Kd.bF HF0_1.out hkp (fun k_ h1_ h2_ => by have o_ := HORD.out; have t_ := HT.out; (try simp only [In2, Up, In, Ex, Exb] at h1_ h2_); omega)); have n2_ := aA.mk (Kd.bF HF3_0.out hkp (fun k_ h1_ h2_ => by have o_ := HORD.out; have t_ := HT.out; (try simp only [In2, Up, In, Ex, Exb] at h1_ h2_); omega)); have n3_ := aA.mk (Kd.S_kept HS3_0.out hkp (fun k_ h1_ h2_ => by have o_ := HORD.out; have t_ := HT.out; (try simp only [In2, Up, In, Ex, Exb] at h1_ h2_); omega)); have n4_ := aA.mk (Kd.bF HF3_1.out hkp (fun k_ h1_ h2_ => by have o_ := HORD.out; have t_ := HT.out; (try simp only [In2, Up, In, Ex, Exb] at h1_ h2_); omega)); have n5_ := aA.mk (Kd.S_kept HS3_1.out hkp (fun k_ h1_ h2_ => by have o_ := HORD.out; have t_ := HT.out; (try simp only [In2, Up, In, Ex, Exb] at h1_ h2_); omega)); have n6_ := aA.mk (bG BK1.out hkp (fun h2_ => by have o_ := HORD.out; have t_ := HT.out; (try simp only [In2, Up, In, Ex, Exb] at h2_); omega)); have n7_ := aA.mk (bG BK2.out hkp (fun h2_ => by have o_ := HORD.out; have t_ := HT.out; (try simp only [In2, Up, In, Ex, Exb] at h2_); omega)); have n8_ := aA.mk (hbn_); have n9_ := aA.mk (hbk_); have n10_ := aA.mk (hsz_); (try clear HF0_0); (try clear HF0_1); (try clear HF3_0); (try clear HS3_0); (try clear HF3_1); (try clear HS3_1); (try clear BK1); (try clear BK2); (try clear HB); (try clear BK4); (try clear HT); have HF0_0 := n0_; have HF0_1 := n1_; have HF3_0 := n2_; have HS3_0 := n3_; have HF3_1 := n4_; have HS3_1 := n5_; have BK1 := n6_; have BK2 := n7_; have HB := n8_; have BK4 := n9_; have HT := n10_; clear n0_ n1_ n2_ n3_ n4_ n5_ n6_ n7_ n8_ n9_ n10_; clear hw_ hkp hge_ hbn_ hbk_ hsz_; have hzgb1_0_5 : w5.cell? ⟨gb1, 0, none⟩ = some (.slice A0_0 l0_0.length c0_0) := (aD BK1.out 0).trans rfl; have hygb1_0_5 := aC BK1.out 0; have hzgb1_1_5 : w5.cell? ⟨gb1, 1, none⟩ = some (.slice A0_1 l0_1.length c0_1) := (aD BK1.out 1).trans rfl; have hygb1_1_5 := aC BK1.out 1; have hzgb1_2_5 : w5.cell? ⟨gb1, 2, none⟩ = some (.int .i64 a0_2) := (aD BK1.out 2).trans rfl; have hygb1_2_5 := aC BK1.out 2; have hzgb1_3_5 : w5.cell? ⟨gb1, 3, none⟩ = some (.bool a0_3) := (aD BK1.out 3).trans rfl; have hygb1_3_5 := aC BK1.out 3; have hzgb2_0_5 : w5.cell? ⟨gb2, 0, none⟩ = some (.slice none 0 0) := (aD BK2.out 0).trans rfl; have hygb2_0_5 := aC BK2.out 0; have hzgb2_1_5 : w5.cell? ⟨gb2, 1, none⟩ = some (.slice none 0 0) := (aD BK2.out 1).trans rfl; have hygb2_1_5 := aC BK2.out 1; have hzgb2_2_5 : w5.cell? ⟨gb2, 2, none⟩ = some (.int .i64 0) := (aD BK2.out 2).trans rfl; have hygb2_2_5 := aC BK2.out 2; have hzgb2_3_5 : w5.cell? ⟨gb2, 3, none⟩ = some (.bool false) := (aD BK2.out 3).trans rfl; have hygb2_3_5 := aC BK2.out 3; have hzgb4_0_5 : w5.cell? ⟨gb4, 0, none⟩ = some (.slice A3_0 l0_0.length c3_0) := (aD BK4.out 0).trans rfl; have hygb4_0_5 := aC BK4.out 0; have hzgb4_1_5 : w5.cell? ⟨gb4, 1, none⟩ = some (.slice A3_1 l0_1.length c3_1) := (aD BK4.out 1).trans rfl; have hygb4_1_5 := aC BK4.out 1; have hzgb4_2_5 : w5.cell? ⟨gb4, 2, none⟩ = some (.int .i64 a0_2) := (aD BK4.out 2).trans rfl; have hygb4_2_5 := aC BK4.out 2; have hzgb4_3_5 : w5.cell? ⟨gb4, 3, none⟩ = some (.bool a0_3) := (aD BK4.out 3).trans rfl; have hygb4_3_5 := aC BK4.out 3) | ((with_reducible refine bJ (f := 20) rfl ?_); refine goesL_ (some 11) rfl rfl Try.func20 (by kernel_rfl) rfl #[.agg #[.slice A0_0 l0_0.length c0_0, .slice A0_1 l0_1.length c0_1, .int .i64 a0_2, .bool a0_3]] rfl (by (try simp only [List.map_toArray, List.map_cons, List.map_nil]); first | done | rfl | (simp only [List.length_drop, List.length_take]; rfl)) ?_; (with_reducible refine (impl_DevOk.calls kd _ _ l0_0 _ _ l0_1 a0_2 a0_3 false _ ?s1 ?s2 ?s3 ?s4 JD.out).mono ?_); (case s1 => exact (Kd.F_now HF0_0.out)); (case s2 => exact HC0_0.out); (case s3 => exact (Kd.F_now HF0_1.out)); (case s4 => exact HC0_1.out); rintro e_ w6 ⟨rfl, hb⟩; refine ⟨_, rfl, ?_⟩; have n0_ := aA.mk (Kd.aZ HF0_0.out hb); have n1_ := aA.mk (Kd.aZ HF0_1.out hb); have n2_ := aA.mk (Kd.aZ HF3_0.out hb); have n3_ := aA.mk (Kd.S_below HS3_0.out hb); have n4_ := aA.mk (Kd.aZ HF3_1.out hb); have n5_ := aA.mk (Kd.S_below HS3_1.out hb); have n6_ := aA.mk (aW BK1.out hb); have n7_ := aA.mk (aW BK2.out hb); have n8_ := aA.mk (aW BK4.out hb); have n9_ := aA.mk (bD HB.out hb); have n10_ := aA.mk (Nat.le_trans HT.out hb.size); (try clear HF0_0); (try clear HF0_1); (try clear HF3_0); (try clear HS3_0); (try clear HF3_1); (try clear HS3_1); (try clear BK1); (try clear BK2); (try clear BK4); (try clear HB); (try clear HT); have HF0_0 := n0_; have HF0_1 := n1_; have HF3_0 := n2_; have HS3_0 := n3_; have HF3_1 := n4_; have HS3_1 := n5_; have BK1 := n6_; have BK2 := n7_; have BK4 := n8_; have HB := n9_; have HT := n10_; clear n0_ n1_ n2_ n3_ n4_ n5_ n6_ n7_ n8_ n9_ n10_; (try clear hb); have hzgb1_0_6 : w6.cell? ⟨gb1, 0, none⟩ = some (.slice A0_0 l0_0.length c0_0) := (aD BK1.out 0).trans rfl; have hygb1_0_6 := aC BK1.out 0; have hzgb1_1_6 : w6.cell? ⟨gb1, 1, none⟩ = some (.slice A0_1 l0_1.length c0_1) := (aD BK1.out 1).trans rfl; have hygb1_1_6 := aC BK1.out 1; have hzgb1_2_6 : w6.cell? ⟨gb1, 2, none⟩ = some (.int .i64 a0_2) := (aD BK1.out 2).trans rfl; have hygb1_2_6 := aC BK1.out 2; have hzgb1_3_6 : w6.cell? ⟨gb1, 3, none⟩ = some (.bool a0_3) := (aD BK1.out 3).trans rfl; have hygb1_3_6 := aC BK1.out 3; have hzgb2_0_6 : w6.cell? ⟨gb2, 0, none⟩ = some (.slice none 0 0) := (aD BK2.out 0).trans rfl; have hygb2_0_6 := aC BK2.out 0; have hzgb2_1_6 : w6.cell? ⟨gb2, 1, none⟩ = some (.slice none 0 0) := (aD BK2.out 1).trans rfl; have hygb2_1_6 := aC BK2.out 1; have hzgb2_2_6 : w6.cell? ⟨gb2, 2, none⟩ = some (.int .i64 0) := (aD BK2.out 2).trans rfl; have hygb2_2_6 := aC BK2.out 2; have hzgb2_3_6 : w6.cell? ⟨gb2, 3, none⟩ = some (.bool false) := (aD BK2.out 3).trans rfl; have hygb2_3_6 := aC BK2.out 3; have hzgb4_0_6 : w6.cell? ⟨gb4, 0, none⟩ = some (.slice A3_0 l0_0.length c3_0) := (aD BK4.out 0).trans rfl; have hygb4_0_6 := aC BK4.out 0; have hzgb4_1_6 : w6.cell? ⟨gb4, 1, none⟩ = some (.slice A3_1 l0_1.length c3_1) := (aD BK4.out 1).trans rfl; have hygb4_1_6 := aC BK4.out 1; have hzgb4_2_6 : w6.cell? ⟨gb4, 2, none⟩ = some (.int .i64 a0_2) := (aD BK4.out 2).trans rfl; have hygb4_2_6 := aC BK4.out 2; have hzgb4_3_6 : w6.cell? ⟨gb4, 3, none⟩ = some (.bool a0_3) := (aD BK4.out 3).trans rfl; have hygb4_3_6 := aC BK4.out 3) | ((with_reducible refine gate_store (t := 25) (p := 4) rfl ?_); refine store_event (t := 25) (p := 4) (v := ?vo_w7) (w1 := ((((w6.setCell ⟨gb2, 0, none⟩ (.slice A3_0 l0_0.length c3_0)).setCell ⟨gb2, 1, none⟩ (.slice A3_1 l0_1.length c3_1)).setCell ⟨gb2, 2, none⟩ (.int .i64 a0_2)).setCell ⟨gb2, 3, none⟩ (.bool a0_3))) ?hg ?ho ?hn ?hr ?_; (case ho => rfl); (case hg => rfl); (case hn => rfl); (case hr => first | (go_simp; done) | (go_simp; rfl)); intro w7 hw_; have hkp : Kept w6 w7 (fun k_ => k_ = gb2) := (by rw [hw_]; exact Kept.setCell (Kept.setCell (Kept.setCell (Kept.setCell (Kept.refl w6 (fun k_ => k_ = gb2)) (.inl rfl) (.slice A3_0 l0_0.length c3_0)) (.inl rfl) (.slice A3_1 l0_1.length c3_1)) (.inl rfl) (.int .i64 a0_2)) (.inl rfl) (.bool a0_3)); have hge_ : w.heap.size ≤ gb2 := (by have o_ := HORD.out; (try unfold In at *); (try show _ ≠ _); omega); have hbn_ : Below w.heap.size w w7 := (by rw [hw_]; exact aE (aE (aE (aE (HB.out) hge_) hge_) hge_) hge_); have hbk_ : w7.heap[gb2]? = some (.cells #[.slice A3_0 l0_0.length c3_0, .slice A3_1 l0_1.length c3_1, .int .i64 a0_2, .bool a0_3] 25 (0, 0)) := (by rw [hw_]; exact bE (cs := #[.slice A3_0 l0_0.length c3_0, .slice A3_1 l0_1.length c3_1, .int .i64 a0_2, .bool false]) (cs' := #[.slice A3_0 l0_0.length c3_0, .slice A3_1 l0_1.length c3_1, .int .i64 a0_2, .bool a0_3]) (bE (cs := #[.slice A3_0 l0_0.length c3_0, .slice A3_1 l0_1.length c3_1, .int .i64 0, .bool false]) (cs' := #[.slice A3_0 l0_0.length c3_0, .slice A3_1 l0_1.length c3_1, .int .i64 a0_2, .bool false]) (bE (cs := #[.slice A3_0 l0_0.length c3_0, .slice none 0 0, .int .i64 0, .bool false]) (cs' := #[.slice A3_0 l0_0.length c3_0, .slice A3_1 l0_1.length c3_1, .int .i64 0, .bool false]) (bE (cs := #[.slice none 0 0, .slice none 0 0, .int .i64 0, .bool false]) (cs' := #[.slice A3_0 l0_0.length c3_0, .slice none 0 0, .int .i64 0, .bool false]) (BK2.out) 0 _ rfl) 1 _ rfl) 2 _ rfl) 3 _ rfl); have hsz_ : (gb4 + 1) ≤ w7.heap.size := Nat.le_trans HT.out hkp.1; have n0_ := aA.mk (Kd.bF HF0_0.out hkp (fun k_ h1_ h2_ => by have o_ := HORD.out; have t_ := HT.out; (try simp only [In2, Up, In, Ex, Exb] at h1_ h2_); omega)); have n1_ := aA.mk (Kd.bF HF0_1.out hkp (fun k_ h1_ h2_ => by have o_ := HORD.out; have t_ := HT.out; (try simp only [In2, Up, In, Ex, Exb] at h1_ h2_); omega)); have n2_ := aA.mk (Kd.bF HF3_0.out hkp (fun k_ h1_ h2_ => by have o_ := HORD.out; have t_ := HT.out; (try simp only [In2, Up, In, Ex, Exb] at h1_ h2_); omega)); have n3_ := aA.mk (Kd.S_kept HS3_0.out hkp (fun k_ h1_ h2_ => by have o_ := HORD.out; have t_ := HT.out; (try simp only [In2, Up, In, Ex, Exb] at h1_ h2_); omega)); have n4_ := aA.mk (Kd.bF HF3_1.out hkp (fun k_ h1_ h2_ => by have o_ := HORD.out; have t_ := HT.out; (try simp only [In2, Up, In, Ex, Exb] at h1_ h2_); omega)); have n5_ := aA.mk (Kd.S_kept HS3_1.out hkp (fun k_ h1_ h2_ => by have o_ := HORD.out; have t_ := HT.out; (try simp only [In2, Up, In, Ex, Exb] at h1_ h2_); omega)); have n6_ := aA.mk (bG BK1.out hkp (fun h2_ => by have o_ := HORD.out; have t_ := HT.out; (try simp only [In2, Up, In, Ex, Exb] at h2_); omega)); have n7_ := aA.mk (bG BK4.out hkp (fun h2_ => by have o_ := HORD.out; have t_ := HT.out; (try simp only [In2, Up, In, Ex, Exb] at h2_); omega)); have n8_ := aA.mk (hbn_); have n9_ := aA.mk (hbk_); have n10_ := aA.mk (hsz_); (try clear HF0_0); (try clear HF0_1); (try clear HF3_0); (try clear HS3_0); (try clear HF3_1); (try clear HS3_1); (try clear BK1); (try clear BK4); (try clear HB); (try clear BK2); (try clear HT); have HF0_0 := n0_; have HF0_1 := n1_; have HF3_0 := n2_; have HS3_0 := n3_; have HF3_1 := n4_; have HS3_1 := n5_; have BK1 := n6_; have BK4 := n7_; have HB := n8_; have BK2 := n9_; have HT := n10_; clear n0_ n1_ n2_ n3_ n4_ n5_ n6_ n7_ n8_ n9_ n10_; clear hw_ hkp hge_ hbn_ hbk_ hsz_; have hzgb1_0_7 : w7.cell? ⟨gb1, 0, none⟩ = some (.slice A0_0 l0_0.length c0_0) := (aD BK1.out 0).trans rfl; have hygb1_0_7 := aC BK1.out 0; have hzgb1_1_7 : w7.cell? ⟨gb1, 1, none⟩ = some (.slice A0_1 l0_1.length c0_1) := (aD BK1.out 1).trans rfl; have hygb1_1_7 := aC BK1.out 1; have hzgb1_2_7 : w7.cell? ⟨gb1, 2, none⟩ = some (.int .i64 a0_2) := (aD BK1.out 2).trans rfl; have hygb1_2_7 := aC BK1.out 2; have hzgb1_3_7 : w7.cell? ⟨gb1, 3, none⟩ = some (.bool a0_3) := (aD BK1.out 3).trans rfl; have hygb1_3_7 := aC BK1.out 3; have hzgb2_0_7 : w7.cell? ⟨gb2, 0, none⟩ = some (.slice A3_0 l0_0.length c3_0) := (aD BK2.out 0).trans rfl; have hygb2_0_7 := aC BK2.out 0; have hzgb2_1_7 : w7.cell? ⟨gb2, 1, none⟩ = some (.slice A3_1 l0_1.length c3_1) := (aD BK2.out 1).trans rfl; have hygb2_1_7 := aC BK2.out 1; have hzgb2_2_7 : w7.cell? ⟨gb2, 2, none⟩ = some (.int .i64 a0_2) := (aD BK2.out 2).trans rfl; have hygb2_2_7 := aC BK2.out 2; have hzgb2_3_7 : w7.cell? ⟨gb2, 3, none⟩ = some (.bool a0_3) := (aD BK2.out 3).trans rfl; have hygb2_3_7 := aC BK2.out 3; have hzgb4_0_7 : w7.cell? ⟨gb4, 0, none⟩ = some (.slice A3_0 l0_0.length c3_0) := (aD BK4.out 0).trans rfl; have hygb4_0_7 := aC BK4.out 0; have hzgb4_1_7 : w7.cell? ⟨gb4, 1, none⟩ = some (.slice A3_1 l0_1.length c3_1) := (aD BK4.out 1).trans rfl; have hygb4_1_7 := aC BK4.out 1; have hzgb4_2_7 : w7.cell? ⟨gb4, 2, none⟩ = some (.int .i64 a0_2) := (aD BK4.out 2).trans rfl; have hygb4_2_7 := aC BK4.out 2; have hzgb4_3_7 : w7.cell? ⟨gb4, 3, none⟩ = some (.bool a0_3) := (aD BK4.out 3).trans rfl; have hygb4_3_7 := aC BK4.out 3))
 refine bodyPost_ret (fn := Try.f32) (P := Try.prog) (results_cell_row rfl _ _ gb2 25 #[.slice A3_0 l0_0.length c3_0, .slice A3_1 l0_1.length c3_1, .int .i64 a0_2, .bool a0_3] (0, 0) _ rfl BK2.out Try.underlying25 rfl (by kernel_rfl)) rfl ?_
 first | exact ⟨_, _, mm3, rfl, (by have o_ := HORD.out; have t_ := HT.out; omega), (by have o_ := HORD.out; have t_ := HT.out; omega), Kd.S_mono (Kd.S_lower HS3_0.out (by have o_ := HORD.out; have t_ := HT.out; omega)) (fun k_ hk_ => by have o_ := HORD.out; have t_ := HT.out; (try simp only [In2, Up, In] at hk_ ⊢); omega), Kd.S_mono (Kd.S_lower HS3_1.out (by have o_ := HORD.out; have t_ := HT.out; omega)) (fun k_ hk_ => by have o_ := HORD.out; have t_ := HT.out; (try simp only [In2, Up, In] at hk_ ⊢); omega), HB.out⟩ | exact ⟨_, _, rfl, mm3, (by have o_ := HORD.out; have t_ := HT.out; omega), (by have o_ := HORD.out; have t_ := HT.out; omega), Kd.S_mono (Kd.S_lower HS3_0.out (by have o_ := HORD.out; have t_ := HT.out; omega)) (fun k_ hk_ => by have o_ := HORD.out; have t_ := HT.out; (try simp only [In2, Up, In] at hk_ ⊢); omega), Kd.S_mono (Kd.S_lower HS3_1.out (by have o_ := HORD.out; have t_ := HT.out; omega)) (fun k_ hk_ => by have o_ := HORD.out; have t_ := HT.out; (try simp only [In2, Up, In] at hk_ ⊢); omega), HB.out⟩
set_option maxHeartbeats 8000000 in
set_option maxRecDepth 100000 in
theorem walk_FallDev2 (A0_0 : Option Addr) (c0_0 : Nat) (l0_0 : List (List (Int))) (A0_1 : Option Addr) (c0_1 : Nat) (l0_1 : List (S50)) (a0_2 : Int) (a0_3 : Bool) (a1 : Int) (w : World) (hf0_0 : Kd.F (Kd.slice 5 (Kd.int .u8)) w (In 0 w.heap.size) A0_0 l0_0.length l0_0) (hc0_0 : l0_0.length ≤ c0_0) (hf0_1 : Kd.F k50 w (In 0 w.heap.size) A0_1 l0_1.length l0_1) (hc0_1 : l0_1.length ≤ c0_1) (hok0 : okByteSS l0_0) (hok1 : okWrS l0_1) (hdo : devOkB l0_0 l0_1 a0_2 = true) (hwi : decide (0 ≤ a1 ∧ a1 ≤ 1073741823) = true) :
  Calls Try.prog 32 #[.agg #[.slice A0_0 l0_0.length c0_0, .slice A0_1 l0_1.length c0_1, .int .i64 a0_2, .bool a0_3], .int .i64 a1] w fun e w' => ∃ v0_ v1_ : Value, ∃ m_ : Nat, e = .returned (.agg #[v0_, v1_, .int .i64 (-1), .bool false]) ∧ w.heap.size ≤ m_ ∧ m_ ≤ w'.heap.size ∧ Kd.S (Kd.slice 5 (Kd.int .u8)) 37 w' w.heap.size (In w.heap.size m_) v0_ (fallSecs l0_0 l0_1 a1 l0_1.length) ∧ Kd.S k50 50 w' w.heap.size (In m_ w'.heap.size) v1_ ([] : List (S50)) ∧ Below w.heap.size w w' := by
 have hu25 := Try.underlying25
 have hu50 := Try.underlying50
 have HF0_0 := aA.mk hf0_0
 have HC0_0 := aA.mk hc0_0
 clear hf0_0 hc0_0
 have HF0_1 := aA.mk hf0_1
 have HC0_1 := aA.mk hc0_1
 clear hf0_1 hc0_1
 have HB := aA.mk (Below.refl w.heap.size w)
 have HORD := aA.mk (Nat.le_refl w.heap.size)
 have HT := aA.mk (Nat.le_refl w.heap.size)
 have JC := aA.mk (copyDevS_f hok0 hok1 a0_2 a0_3)
 obtain ⟨kd, hd0_⟩ := evGet (impl_DevOk_ev l0_0 l0_1 a0_2 a0_3 hok0 hok1)
 rw [hdo] at hd0_
 have JD := aA.mk hd0_
 clear hd0_
 have JW := aA.mk (show impl_within.f a1 0 1073741823 = some true from by rw [impl_within_f, hwi])
 go_enter Try.func32, Try.ntmps32
 go_wp2_with (first | ((with_reducible refine gate_dst (N := 2) rfl ?_); refine box_event ?hg (N := 2) ?hd (cs := #[.slice A0_0 l0_0.length c0_0, .slice A0_1 l0_1.length c0_1, .int .i64 a0_2, .bool a0_3]) (t := 25) ?hr ?_; (case hd => rfl); (case hg => rfl); (case hr => first | (go_simp; done) | (go_simp; rfl)); intro gb1 hg_ w1 hbox hb; have hge_ : w.heap.size ≤ gb1 := (by rw [hg_]; exact HT.out); have hlt_ : gb1 + 1 ≤ w1.heap.size := blk_lt hbox; have n0_ := aA.mk (Kd.aZ HF0_0.out hb); have n1_ := aA.mk (Kd.aZ HF0_1.out hb); have n2_ := aA.mk (bD HB.out hb); have n3_ := aA.mk (hbox); have n4_ := aA.mk (And.intro HORD.out (And.intro hge_ (Nat.le_succ gb1))); have n5_ := aA.mk (hlt_); (try clear HF0_0); (try clear HF0_1); (try clear HB); (try clear BK1); (try clear HORD); (try clear HT); have HF0_0 := n0_; have HF0_1 := n1_; have HB := n2_; have BK1 := n3_; have HORD := n4_; have HT := n5_; clear n0_ n1_ n2_ n3_ n4_ n5_; clear hb hbox hg_ hge_ hlt_; have hzgb1_0_1 : w1.cell? ⟨gb1, 0, none⟩ = some (.slice A0_0 l0_0.length c0_0) := (aD BK1.out 0).trans rfl; have hygb1_0_1 := aC BK1.out 0; have hzgb1_1_1 : w1.cell? ⟨gb1, 1, none⟩ = some (.slice A0_1 l0_1.length c0_1) := (aD BK1.out 1).trans rfl; have hygb1_1_1 := aC BK1.out 1; have hzgb1_2_1 : w1.cell? ⟨gb1, 2, none⟩ = some (.int .i64 a0_2) := (aD BK1.out 2).trans rfl; have hygb1_2_1 := aC BK1.out 2; have hzgb1_3_1 : w1.cell? ⟨gb1, 3, none⟩ = some (.bool a0_3) := (aD BK1.out 3).trans rfl; have hygb1_3_1 := aC BK1.out 3) | ((with_reducible refine gate_dst (N := 4) rfl ?_); refine box_event ?hg (N := 4) ?hd (cs := #[.slice none 0 0, .slice none 0 0, .int .i64 0, .bool false]) (t := 25) ?hr ?_; (case hd => rfl); (case hg => rfl); (case hr => first | (go_simp; done) | (go_simp; rfl)); intro gb2 hg_ w2 hbox hb; have hge_ : (gb1 + 1) ≤ gb2 := (by rw [hg_]; exact HT.out); have hlt_ : gb2 + 1 ≤ w2.heap.size := blk_lt hbox; have n0_ := aA.mk (Kd.aZ HF0_0.out hb); have n1_ := aA.mk (Kd.aZ HF0_1.out hb); have n2_ := aA.mk (aW BK1.out hb); have n3_ := aA.mk (bD HB.out hb); have n4_ := aA.mk (hbox); have n5_ := aA.mk (And.intro HORD.out (And.intro hge_ (Nat.le_succ gb2))); have n6_ := aA.mk (hlt_); (try clear HF0_0); (try clear HF0_1); (try clear BK1); (try clear HB); (try clear BK2); (try clear HORD); (try clear HT); have HF0_0 := n0_; have HF0_1 := n1_; have BK1 := n2_; have HB := n3_; have BK2 := n4_; have HORD := n5_; have HT := n6_; clear n0_ n1_ n2_ n3_ n4_ n5_ n6_; clear hb hbox hg_ hge_ hlt_; have hzgb1_0_2 : w2.cell? ⟨gb1, 0, none⟩ = some (.slice A0_0 l0_0.length c0_0) := (aD BK1.out 0).trans rfl; have hygb1_0_2 := aC BK1.out 0; have hzgb1_1_2 : w2.cell? ⟨gb1, 1, none⟩ = some (.slice A0_1 l0_1.length c0_1) := (aD BK1.out 1).trans rfl; have hygb1_1_2 := aC BK1.out 1; have hzgb1_2_2 : w2.cell? ⟨gb1, 2, none⟩ = some (.int .i64 a0_2) := (aD BK1.out 2).trans rfl; have hygb1_2_2 := aC BK1.out 2; have hzgb1_3_2 : w2.cell? ⟨gb1, 3, none⟩ = some (.bool a0_3) := (aD BK1.out 3).trans rfl; have hygb1_3_2 := aC BK1.out 3; have hzgb2_0_2 : w2.cell? ⟨gb2, 0, none⟩ = some (.slice none 0 0) := (aD BK2.out 0).trans rfl; have hygb2_0_2 := aC BK2.out 0; have hzgb2_1_2 : w2.cell? ⟨gb2, 1, none⟩ = some (.slice none 0 0) := (aD BK2.out 1).trans rfl; have hygb2_1_2 := aC BK2.out 1; have hzgb2_2_2 : w2.cell? ⟨gb2, 2, none⟩ = some (.int .i64 0) := (aD BK2.out 2).trans rfl; have hygb2_2_2 := aC BK2.out 2; have hzgb2_3_2 : w2.cell? ⟨gb2, 3, none⟩ = some (.bool false) := (aD BK2.out 3).trans rfl; have hygb2_3_2 := aC BK2.out 3) | ((with_reducible refine bJ (f := 58) rfl ?_); refine goesL_ (some 9) rfl rfl Try.func58 (by kernel_rfl) rfl #[.agg #[.slice A0_0 l0_0.length c0_0, .slice A0_1 l0_1.length c0_1, .int .i64 a0_2, .bool a0_3]] rfl (by (try simp only [List.map_toArray, List.map_cons, List.map_nil]); first | done | rfl | (simp only [List.length_drop, List.length_take]; rfl)) ?_; (with_reducible refine (impl_copyDevS.calls (In 0 w.heap.size) _ _ l0_0 (In 0 w.heap.size) _ _ l0_1 a0_2 a0_3 l0_0 l0_1 a0_2 a0_3 _ ?s1 ?s2 JC.out).mono ?_); (case s1 => exact ⟨_, _, rfl, HC0_0.out, HF0_0.out⟩); (case s2 => exact ⟨_, _, rfl, HC0_1.out, HF0_1.out⟩); rintro e_ w3 ⟨v0_, v1_, mm3, rfl, hm1_, hm2_, ho0, ho1, hb⟩; refine ⟨_, rfl, ?_⟩; obtain ⟨lo3, hi3, el_, eh_, ol_, oh_⟩ := Mem.times HT.out hb; rw [← el_] at hm1_; rw [← eh_] at hm2_; rw [← el_] at ho0; obtain ⟨A3_0, c3_0, ev_, hc0_, hf0_, hs0_⟩ := new_SI2 ho0; subst ev_; rw [← eh_] at ho1; (try rw [← el_] at ho1); obtain ⟨A3_1, c3_1, ev_, hc1_, hf1_, hs1_⟩ := new_SI2 ho1; subst ev_; have n0_ := aA.mk (Kd.aZ HF0_0.out hb); have n1_ := aA.mk (Kd.aZ HF0_1.out hb); have n2_ := aA.mk (aW BK1.out hb); have n3_ := aA.mk (aW BK2.out hb); have n4_ := aA.mk (bD HB.out hb); have n5_ := aA.mk (hf0_); have n6_ := aA.mk (hc0_); have n7_ := aA.mk (hs0_); have n8_ := aA.mk (hf1_); have n9_ := aA.mk (hc1_); have n10_ := aA.mk (hs1_); have n11_ := aA.mk (And.intro HORD.out (And.intro ol_ (And.intro hm1_ hm2_))); have n12_ := aA.mk (Nat.le_of_eq eh_); (try clear HF0_0); (try clear HF0_1); (try clear BK1); (try clear BK2); (try clear HB); (try clear HF3_0); (try clear HC3_0); (try clear HS3_0); (try clear HF3_1); (try clear HC3_1); (try clear HS3_1); (try clear HORD); (try clear HT); have HF0_0 := n0_; have HF0_1 := n1_; have BK1 := n2_; have BK2 := n3_; have HB := n4_; have HF3_0 := n5_; have HC3_0 := n6_; have HS3_0 := n7_; have HF3_1 := n8_; have HC3_1 := n9_; have HS3_1 := n10_; have HORD := n11_; have HT := n12_; clear n0_ n1_ n2_ n3_ n4_ n5_ n6_ n7_ n8_ n9_ n10_ n11_ n12_; clear hm1_ hm2_; clear ol_ oh_ el_ eh_ ho0 hf0_ hc0_ hs0_ ho1 hf1_ hc1_ hs1_; (try clear hb); have hzgb1_0_3 : w3.cell? ⟨gb1, 0, none⟩ = some (.slice A0_0 l0_0.length c0_0) := (aD BK1.out 0).trans rfl; have hygb1_0_3 := aC BK1.out 0; have hzgb1_1_3 : w3.cell? ⟨gb1, 1, none⟩ = some (.slice A0_1 l0_1.length c0_1) := (aD BK1.out 1).trans rfl; have hygb1_1_3 := aC BK1.out 1; have hzgb1_2_3 : w3.cell? ⟨gb1, 2, none⟩ = some (.int .i64 a0_2) := (aD BK1.out 2).trans rfl; have hygb1_2_3 := aC BK1.out 2; have hzgb1_3_3 : w3.cell? ⟨gb1, 3, none⟩ = some (.bool a0_3) := (aD BK1.out 3).trans rfl; have hygb1_3_3 := aC BK1.out 3; have hzgb2_0_3 : w3.cell? ⟨gb2, 0, none⟩ = some (.slice none 0 0) := (aD BK2.out 0).trans rfl; have hygb2_0_3 := aC BK2.out 0; have hzgb2_1_3 : w3.cell? ⟨gb2, 1, none⟩ = some (.slice none 0 0) := (aD BK2.out 1).trans rfl; have hygb2_1_3 := aC BK2.out 1; have hzgb2_2_3 : w3.cell? ⟨gb2, 2, none⟩ = some (.int .i64 0) := (aD BK2.out 2).trans rfl; have hygb2_2_3 := aC BK2.out 2; have hzgb2_3_3 : w3.cell? ⟨gb2, 3, none⟩ = some (.bool false) := (aD BK2.out 3).trans rfl; have hygb2_3_3 := aC BK2.out 3) | ((with_reducible refine gate_dst (N := 5) rfl ?_); refine box_event ?hg (N := 5) ?hd (cs := #[.slice none 0 0, .slice none 0 0, .int .i64 0, .bool false]) (t := 25) ?hr ?_; (case hd => rfl); (case hg => rfl); (case hr => first | (go_simp; done) | (go_simp; rfl)); intro gb4 hg_ w4 hbox hb; have hge_ : hi3 ≤ gb4 := (by rw [hg_]; exact HT.out); have hlt_ : gb4 + 1 ≤ w4.heap.size := blk_lt hbox; have n0_ := aA.mk (Kd.aZ HF0_0.out hb); have n1_ := aA.mk (Kd.aZ HF0_1.out hb); have n2_ := aA.mk (Kd.aZ HF3_0.out hb); have n3_ := aA.mk (Kd.S_below HS3_0.out hb); have n4_ := aA.mk (Kd.aZ HF3_1.out hb); have n5_ := aA.mk (Kd.S_below HS3_1.out hb); have n6_ := aA.mk (aW BK1.out hb); have n7_ := aA.mk (aW BK2.out hb); have n8_ := aA.mk (bD HB.out hb); have n9_ := aA.mk (hbox); have n10_ := aA.mk (And.intro HORD.out (And.intro hge_ (Nat.le_succ gb4))); have n11_ := aA.mk (hlt_); (try clear HF0_0); (try clear HF0_1); (try clear HF3_0); (try clear HS3_0); (try clear HF3_1); (try clear HS3_1); (try clear BK1); (try clear BK2); (try clear HB); (try clear BK4); (try clear HORD); (try clear HT); have HF0_0 := n0_; have HF0_1 := n1_; have HF3_0 := n2_; have HS3_0 := n3_; have HF3_1 := n4_; have HS3_1 := n5_; have BK1 := n6_; have BK2 := n7_; have HB := n8_; have BK4 := n9_; have HORD := n10_; have HT := n11_; clear n0_ n1_ n2_ n3_ n4_ n5_ n6_ n7_ n8_ n9_ n10_ n11_; clear hb hbox hg_ hge_ hlt_; have hzgb1_0_4 : w4.cell? ⟨gb1, 0, none⟩ = some (.slice A0_0 l0_0.length c0_0) := (aD BK1.out 0).trans rfl; have hygb1_0_4 := aC BK1.out 0; have hzgb1_1_4 : w4.cell? ⟨gb1, 1, none⟩ = some (.slice A0_1 l0_1.length c0_1) := (aD BK1.out 1).trans rfl; have hygb1_1_4 := aC BK1.out 1; have hzgb1_2_4 : w4.cell? ⟨gb1, 2, none⟩ = some (.int .i64 a0_2) := (aD BK1.out 2).trans rfl; have hygb1_2_4 := aC BK1.out 2; have hzgb1_3_4 : w4.cell? ⟨gb1, 3, none⟩ = some (.bool a0_3) := (aD BK1.out 3).trans rfl; have hygb1_3_4 := aC BK1.out 3; have hzgb2_0_4 : w4.cell? ⟨gb2, 0, none⟩ = some (.slice none 0 0) := (aD BK2.out 0).trans rfl; have hygb2_0_4 := aC BK2.out 0; have hzgb2_1_4 : w4.cell? ⟨gb2, 1, none⟩ = some (.slice none 0 0) := (aD BK2.out 1).trans rfl; have hygb2_1_4 := aC BK2.out 1; have hzgb2_2_4 : w4.cell? ⟨gb2, 2, none⟩ = some (.int .i64 0) := (aD BK2.out 2).trans rfl; have hygb2_2_4 := aC BK2.out 2; have hzgb2_3_4 : w4.cell? ⟨gb2, 3, none⟩ = some (.bool false) := (aD BK2.out 3).trans rfl; have hygb2_3_4 := aC BK2.out 3; have hzgb4_0_4 : w4.cell? ⟨gb4, 0, none⟩ = some (.slice none 0 0) := (aD BK4.out 0).trans rfl; have hygb4_0_4 := aC BK4.out 0; have hzgb4_1_4 : w4.cell? ⟨gb4, 1, none⟩ = some (.slice none 0 0) := (aD BK4.out 1).trans rfl; have hygb4_1_4 := aC BK4.out 1; have hzgb4_2_4 : w4.cell? ⟨gb4, 2, none⟩ = some (.int .i64 0) := (aD BK4.out 2).trans rfl; have hygb4_2_4 := aC BK4.out 2; have hzgb4_3_4 : w4.cell? ⟨gb4, 3, none⟩ = some (.bool false) := (aD BK4.out 3).trans rfl; have hygb4_3_4 := aC BK4.out 3) | ((with_reducible refine gate_store (t := 25) (p := 5) rfl ?_); refine store_event (t := 25) (p := 5) (v := ?vo_w5) (w1 := ((((w4.setCell ⟨gb4, 0, none⟩ (.slice A3_0 l0_0.length c3_0)).setCell ⟨gb4, 1, none⟩ (.slice A3_1 l0_1.length c3_1)).setCell ⟨gb4, 2, none⟩ (.int .i64 a0_2)).setCell ⟨gb4, 3, none⟩ (.bool a0_3))) ?hg ?ho ?hn ?hr ?_; (case ho => rfl); (case hg => rfl); (case hn => rfl); (case hr => first | (go_simp; done) | (go_simp; rfl)); intro w5 hw_; have hkp : Kept w4 w5 (fun k_ => k_ = gb4) := (by rw [hw_]; exact Kept.setCell (Kept.setCell (Kept.setCell (Kept.setCell (Kept.refl w4 (fun k_ => k_ = gb4)) (.inl rfl) (.slice A3_0 l0_0.length c3_0)) (.inl rfl) (.slice A3_1 l0_1.length c3_1)) (.inl rfl) (.int .i64 a0_2)) (.inl rfl) (.bool a0_3)); have hge_ : w.heap.size ≤ gb4 := (by have o_ := HORD.out; (try unfold In at *); (try show _ ≠ _); omega); have hbn_ : Below w.heap.size w w5 := (by rw [hw_]; exact aE (aE (aE (aE (HB.out) hge_) hge_) hge_) hge_); have hbk_ : w5.heap[gb4]? = some (.cells #[.slice A3_0 l0_0.length c3_0, .slice A3_1 l0_1.length c3_1, .int .i64 a0_2, .bool a0_3] 25 (0, 0)) := (by rw [hw_]; exact bE (cs := #[.slice A3_0 l0_0.length c3_0, .slice A3_1 l0_1.length c3_1, .int .i64 a0_2, .bool false]) (cs' := #[.slice A3_0 l0_0.length c3_0, .slice A3_1 l0_1.length c3_1, .int .i64 a0_2, .bool a0_3]) (bE (cs := #[.slice A3_0 l0_0.length c3_0, .slice A3_1 l0_1.length c3_1, .int .i64 0, .bool false]) (cs' := #[.slice A3_0 l0_0.length c3_0, .slice A3_1 l0_1.length c3_1, .int .i64 a0_2, .bool false]) (bE (cs := #[.slice A3_0 l0_0.length c3_0, .slice none 0 0, .int .i64 0, .bool false]) (cs' := #[.slice A3_0 l0_0.length c3_0, .slice A3_1 l0_1.length c3_1, .int .i64 0, .bool false]) (bE (cs := #[.slice none 0 0, .slice none 0 0, .int .i64 0, .bool false]) (cs' := #[.slice A3_0 l0_0.length c3_0, .slice none 0 0, .int .i64 0, .bool false]) (BK4.out) 0 _ rfl) 1 _ rfl) 2 _ rfl) 3 _ rfl); have hsz_ : (gb4 + 1) ≤ w5.heap.size := Nat.le_trans HT.out hkp.1; have n0_ := aA.mk (Kd.bF HF0_0.out hkp (fun k_ h1_ h2_ => by have o_ := HORD.out; have t_ := HT.out; (try simp only [In2, Up, In, Ex, Exb] at h1_ h2_); omega)); have n1_ := aA.mk (Kd.bF HF0_1.out hkp (fun k_ h1_ h2_ => by have o_ := HORD.out; have t_ := HT.out; (try simp only [In2, Up, In, Ex, Exb] at h1_ h2_); omega)); have n2_ := aA.mk (Kd.bF HF3_0.out hkp (fun k_ h1_ h2_ => by have o_ := HORD.out; have t_ := HT.out; (try simp only [In2, Up, In, Ex, Exb] at h1_ h2_); omega)); have n3_ := aA.mk (Kd.S_kept HS3_0.out hkp (fun k_ h1_ h2_ => by have o_ := HORD.out; have t_ := HT.out; (try simp only [In2, Up, In, Ex, Exb] at h1_ h2_); omega)); have n4_ := aA.mk (Kd.bF HF3_1.out hkp (fun k_ h1_ h2_ => by have o_ := HORD.out; have t_ := HT.out; (try simp only [In2, Up, In, Ex, Exb] at h1_ h2_); omega)); have n5_ := aA.mk (Kd.S_kept HS3_1.out hkp (fun k_ h1_ h2_ => by have o_ := HORD.out; have t_ := HT.out; (try simp only [In2, Up, In, Ex, Exb] at h1_ h2_); omega)); have n6_ := aA.mk (bG BK1.out hkp (fun h2_ => by have o_ := HORD.out; have t_ := HT.out; (try simp only [In2, Up, In, Ex, Exb] at h2_); omega)); have n7_ := aA.mk (bG BK2.out hkp (fun h2_ => by have o_ := HORD.out; have t_ := HT.out; (try simp only [In2, Up, In, Ex, Exb] at h2_); omega)); have n8_ := aA.mk (hbn_); have n9_ := aA.mk (hbk_); have n10_ := aA.mk (hsz_); (try clear HF0_0); (try clear HF0_1); (try clear HF3_0); (try clear HS3_0); (try clear HF3_1); (try clear HS3_1); (try clear BK1); (try clear BK2); (try clear HB); (try clear BK4); (try clear HT); have HF0_0 := n0_; have HF0_1 := n1_; have HF3_0 := n2_; have HS3_0 := n3_; have HF3_1 := n4_; have HS3_1 := n5_; have BK1 := n6_; have BK2 := n7_; have HB := n8_; have BK4 := n9_; have HT := n10_; clear n0_ n1_ n2_ n3_ n4_ n5_ n6_ n7_ n8_ n9_ n10_; clear hw_ hkp hge_ hbn_ hbk_ hsz_; have hzgb1_0_5 : w5.cell? ⟨gb1, 0, none⟩ = some (.slice A0_0 l0_0.length c0_0) := (aD BK1.out 0).trans rfl; have hygb1_0_5 := aC BK1.out 0; have hzgb1_1_5 : w5.cell? ⟨gb1, 1, none⟩ = some (.slice A0_1 l0_1.length c0_1) := (aD BK1.out 1).trans rfl; have hygb1_1_5 := aC BK1.out 1; have hzgb1_2_5 : w5.cell? ⟨gb1, 2, none⟩ = some (.int .i64 a0_2) := (aD BK1.out 2).trans rfl; have hygb1_2_5 := aC BK1.out 2; have hzgb1_3_5 : w5.cell? ⟨gb1, 3, none⟩ = some (.bool a0_3) := (aD BK1.out 3).trans rfl; have hygb1_3_5 := aC BK1.out 3; have hzgb2_0_5 : w5.cell? ⟨gb2, 0, none⟩ = some (.slice none 0 0) := (aD BK2.out 0).trans rfl; have hygb2_0_5 := aC BK2.out 0; have hzgb2_1_5 : w5.cell? ⟨gb2, 1, none⟩ = some (.slice none 0 0) := (aD BK2.out 1).trans rfl; have hygb2_1_5 := aC BK2.out 1; have hzgb2_2_5 : w5.cell? ⟨gb2, 2, none⟩ = some (.int .i64 0) := (aD BK2.out 2).trans rfl; have hygb2_2_5 := aC BK2.out 2; have hzgb2_3_5 : w5.cell? ⟨gb2, 3, none⟩ = some (.bool false) := (aD BK2.out 3).trans rfl; have hygb2_3_5 := aC BK2.out 3; have hzgb4_0_5 : w5.cell? ⟨gb4, 0, none⟩ = some (.slice A3_0 l0_0.length c3_0) := (aD BK4.out 0).trans rfl; have hygb4_0_5 := aC BK4.out 0; have hzgb4_1_5 : w5.cell? ⟨gb4, 1, none⟩ = some (.slice A3_1 l0_1.length c3_1) := (aD BK4.out 1).trans rfl; have hygb4_1_5 := aC BK4.out 1; have hzgb4_2_5 : w5.cell? ⟨gb4, 2, none⟩ = some (.int .i64 a0_2) := (aD BK4.out 2).trans rfl; have hygb4_2_5 := aC BK4.out 2; have hzgb4_3_5 : w5.cell? ⟨gb4, 3, none⟩ = some (.bool a0_3) := (aD BK4.out 3).trans rfl; have hygb4_3_5 := aC BK4.out 3) | ((with_reducible refine bJ (f := 20) rfl ?_); refine goesL_ (some 11) rfl rfl Try.func20 (by kernel_rfl) rfl #[.agg #[.slice A0_0 l0_0.length c0_0, .slice A0_1 l0_1.length c0_1, .int .i64 a0_2, .bool a0_3]] rfl (by (try simp only [List.map_toArray, List.map_cons, List.map_nil]); first | done | rfl | (simp only [List.length_drop, List.length_take]; rfl)) ?_; (with_reducible refine (impl_DevOk.calls kd _ _ l0_0 _ _ l0_1 a0_2 a0_3 true _ ?s1 ?s2 ?s3 ?s4 JD.out).mono ?_); (case s1 => exact (Kd.F_now HF0_0.out)); (case s2 => exact HC0_0.out); (case s3 => exact (Kd.F_now HF0_1.out)); (case s4 => exact HC0_1.out); rintro e_ w6 ⟨rfl, hb⟩; refine ⟨_, rfl, ?_⟩; have n0_ := aA.mk (Kd.aZ HF0_0.out hb); have n1_ := aA.mk (Kd.aZ HF0_1.out hb); have n2_ := aA.mk (Kd.aZ HF3_0.out hb); have n3_ := aA.mk (Kd.S_below HS3_0.out hb); have n4_ := aA.mk (Kd.aZ HF3_1.out hb); have n5_ := aA.mk (Kd.S_below HS3_1.out hb); have n6_ := aA.mk (aW BK1.out hb); have n7_ := aA.mk (aW BK2.out hb); have n8_ := aA.mk (aW BK4.out hb); have n9_ := aA.mk (bD HB.out hb); have n10_ := aA.mk (Nat.le_trans HT.out hb.size); (try clear HF0_0); (try clear HF0_1); (try clear HF3_0); (try clear HS3_0); (try clear HF3_1); (try clear HS3_1); (try clear BK1); (try clear BK2); (try clear BK4); (try clear HB); (try clear HT); have HF0_0 := n0_; have HF0_1 := n1_; have HF3_0 := n2_; have HS3_0 := n3_; have HF3_1 := n4_; have HS3_1 := n5_; have BK1 := n6_; have BK2 := n7_; have BK4 := n8_; have HB := n9_; have HT := n10_; clear n0_ n1_ n2_ n3_ n4_ n5_ n6_ n7_ n8_ n9_ n10_; (try clear hb); have hzgb1_0_6 : w6.cell? ⟨gb1, 0, none⟩ = some (.slice A0_0 l0_0.length c0_0) := (aD BK1.out 0).trans rfl; have hygb1_0_6 := aC BK1.out 0; have hzgb1_1_6 : w6.cell? ⟨gb1, 1, none⟩ = some (.slice A0_1 l0_1.length c0_1) := (aD BK1.out 1).trans rfl; have hygb1_1_6 := aC BK1.out 1; have hzgb1_2_6 : w6.cell? ⟨gb1, 2, none⟩ = some (.int .i64 a0_2) := (aD BK1.out 2).trans rfl; have hygb1_2_6 := aC BK1.out 2; have hzgb1_3_6 : w6.cell? ⟨gb1, 3, none⟩ = some (.bool a0_3) := (aD BK1.out 3).trans rfl; have hygb1_3_6 := aC BK1.out 3; have hzgb2_0_6 : w6.cell? ⟨gb2, 0, none⟩ = some (.slice none 0 0) := (aD BK2.out 0).trans rfl; have hygb2_0_6 := aC BK2.out 0; have hzgb2_1_6 : w6.cell? ⟨gb2, 1, none⟩ = some (.slice none 0 0) := (aD BK2.out 1).trans rfl; have hygb2_1_6 := aC BK2.out 1; have hzgb2_2_6 : w6.cell? ⟨gb2, 2, none⟩ = some (.int .i64 0) := (aD BK2.out 2).trans rfl; have hygb2_2_6 := aC BK2.out 2; have hzgb2_3_6 : w6.cell? ⟨gb2, 3, none⟩ = some (.bool false) := (aD BK2.out 3).trans rfl; have hygb2_3_6 := aC BK2.out 3; have hzgb4_0_6 : w6.cell? ⟨gb4, 0, none⟩ = some (.slice A3_0 l0_0.length c3_0) := (aD BK4.out 0).trans rfl; have hygb4_0_6 := aC BK4.out 0; have hzgb4_1_6 : w6.cell? ⟨gb4, 1, none⟩ = some (.slice A3_1 l0_1.length c3_1) := (aD BK4.out 1).trans rfl; have hygb4_1_6 := aC BK4.out 1; have hzgb4_2_6 : w6.cell? ⟨gb4, 2, none⟩ = some (.int .i64 a0_2) := (aD BK4.out 2).trans rfl; have hygb4_2_6 := aC BK4.out 2; have hzgb4_3_6 : w6.cell? ⟨gb4, 3, none⟩ = some (.bool a0_3) := (aD BK4.out 3).trans rfl; have hygb4_3_6 := aC BK4.out 3) | ((with_reducible refine bJ (f := 44) rfl ?_); refine goesL_ (some 15) rfl rfl Try.func44 (by kernel_rfl) rfl #[.int .i64 a1, .int .i64 0, .int .i64 1073741823] rfl (by (try simp only [List.map_toArray, List.map_cons, List.map_nil]); first | done | rfl | (simp only [List.length_drop, List.length_take]; rfl)) ?_; (with_reducible refine (impl_within.calls a1 0 1073741823 true _ JW.out).mono ?_); rintro e_ w7 ⟨rfl, hd⟩; refine ⟨_, rfl, ?_⟩; have hb := hd.below; clear hd; have n0_ := aA.mk (Kd.aZ HF0_0.out hb); have n1_ := aA.mk (Kd.aZ HF0_1.out hb); have n2_ := aA.mk (Kd.aZ HF3_0.out hb); have n3_ := aA.mk (Kd.S_below HS3_0.out hb); have n4_ := aA.mk (Kd.aZ HF3_1.out hb); have n5_ := aA.mk (Kd.S_below HS3_1.out hb); have n6_ := aA.mk (aW BK1.out hb); have n7_ := aA.mk (aW BK2.out hb); have n8_ := aA.mk (aW BK4.out hb); have n9_ := aA.mk (bD HB.out hb); have n10_ := aA.mk (Nat.le_trans HT.out hb.size); (try clear HF0_0); (try clear HF0_1); (try clear HF3_0); (try clear HS3_0); (try clear HF3_1); (try clear HS3_1); (try clear BK1); (try clear BK2); (try clear BK4); (try clear HB); (try clear HT); have HF0_0 := n0_; have HF0_1 := n1_; have HF3_0 := n2_; have HS3_0 := n3_; have HF3_1 := n4_; have HS3_1 := n5_; have BK1 := n6_; have BK2 := n7_; have BK4 := n8_; have HB := n9_; have HT := n10_; clear n0_ n1_ n2_ n3_ n4_ n5_ n6_ n7_ n8_ n9_ n10_; (try clear hb); have hzgb1_0_7 : w7.cell? ⟨gb1, 0, none⟩ = some (.slice A0_0 l0_0.length c0_0) := (aD BK1.out 0).trans rfl; have hygb1_0_7 := aC BK1.out 0; have hzgb1_1_7 : w7.cell? ⟨gb1, 1, none⟩ = some (.slice A0_1 l0_1.length c0_1) := (aD BK1.out 1).trans rfl; have hygb1_1_7 := aC BK1.out 1; have hzgb1_2_7 : w7.cell? ⟨gb1, 2, none⟩ = some (.int .i64 a0_2) := (aD BK1.out 2).trans rfl; have hygb1_2_7 := aC BK1.out 2; have hzgb1_3_7 : w7.cell? ⟨gb1, 3, none⟩ = some (.bool a0_3) := (aD BK1.out 3).trans rfl; have hygb1_3_7 := aC BK1.out 3; have hzgb2_0_7 : w7.cell? ⟨gb2, 0, none⟩ = some (.slice none 0 0) := (aD BK2.out 0).trans rfl; have hygb2_0_7 := aC BK2.out 0; have hzgb2_1_7 : w7.cell? ⟨gb2, 1, none⟩ = some (.slice none 0 0) := (aD BK2.out 1).trans rfl; have hygb2_1_7 := aC BK2.out 1; have hzgb2_2_7 : w7.cell? ⟨gb2, 2, none⟩ = some (.int .i64 0) := (aD BK2.out 2).trans rfl; have hygb2_2_7 := aC BK2.out 2; have hzgb2_3_7 : w7.cell? ⟨gb2, 3, none⟩ = some (.bool false) := (aD BK2.out 3).trans rfl; have hygb2_3_7 := aC BK2.out 3; have hzgb4_0_7 : w7.cell? ⟨gb4, 0, none⟩ = some (.slice A3_0 l0_0.length c3_0) := (aD BK4.out 0).trans rfl; have hygb4_0_7 := aC BK4.out 0; have hzgb4_1_7 : w7.cell? ⟨gb4, 1, none⟩ = some (.slice A3_1 l0_1.length c3_1) := (aD BK4.out 1).trans rfl; have hygb4_1_7 := aC BK4.out 1; have hzgb4_2_7 : w7.cell? ⟨gb4, 2, none⟩ = some (.int .i64 a0_2) := (aD BK4.out 2).trans rfl; have hygb4_2_7 := aC BK4.out 2; have hzgb4_3_7 : w7.cell? ⟨gb4, 3, none⟩ = some (.bool a0_3) := (aD BK4.out 3).trans rfl; have hygb4_3_7 := aC BK4.out 3))
 go_loopg [20] (l0_1.length) (fun kq  v8 w' => ∃ (i8 : Nat) (x8 : Int) (u8 : Value), v8 = .int .i64 x8 ∧ aA (x8 = (i8 : Int)) ∧ aA (i8 + kq = l0_1.length) ∧ aA ((gb4 + 1) ≤ w'.heap.size) ∧ aA (Kd.S (Kd.slice 5 (Kd.int .u8)) 37 w' w.heap.size (Up lo3 mm3 (gb4 + 1)) u8 (fallSecs l0_0 l0_1 a1 i8)) ∧ aA (Kd.F (Kd.slice 5 (Kd.int .u8)) w' (In 0 w.heap.size) A0_0 l0_0.length l0_0) ∧ aA (Kd.F k50 w' (In 0 w.heap.size) A0_1 l0_1.length l0_1) ∧ aA (Kd.F k50 w' (In mm3 hi3) A3_1 l0_1.length l0_1) ∧ aA (Kd.S k50 50 w' lo3 (In mm3 hi3) (.slice A3_1 l0_1.length c3_1) l0_1) ∧ aA (w'.heap[gb1]? = some (.cells #[.slice A0_0 l0_0.length c0_0, .slice A0_1 l0_1.length c0_1, .int .i64 a0_2, .bool a0_3] 25 (0, 0))) ∧ aA (w'.heap[gb2]? = some (.cells #[.slice none 0 0, .slice none 0 0, .int .i64 0, .bool false] 25 (0, 0))) ∧ aA (w'.heap[gb4]? = some (.cells #[u8, .slice A3_1 l0_1.length c3_1, .int .i64 a0_2, .bool a0_3] 25 (0, 0))) ∧ aA (Below w.heap.size w w'))
 case atStart => exact ⟨0, 0, _, rfl, ⟨rfl⟩, ⟨Nat.zero_add _⟩, HT, ⟨by rw [show fallSecs l0_0 l0_1 a1 0 = l0_0 from rfl]; exact Kd.S_mono (Kd.S_lower HS3_0.out (by have o_ := HORD.out; omega)) (fun k_ hk_ => by have o_ := HORD.out; have t_ := HT.out; (try simp only [In2, Up, In, Ex, Exb] at hk_ ⊢); omega)⟩, HF0_0, HF0_1, HF3_1, HS3_1, BK1, BK2, BK4, HB⟩
 clear HF0_0 HF0_1 HF3_1 HS3_1 BK1 BK2 BK4 HB HT HS3_0 HF3_0
 obtain ⟨i8, x8, u8, rfl, HI8, HK8, HT, HS8, HF0_0, HF0_1, HF3_1, HS3_1, BK1, BK2, BK4, HB⟩ := hrel
 obtain ⟨xs8, ex_⟩ : ∃ y_, y_ = fallSecs l0_0 l0_1 a1 i8 := ⟨_, rfl⟩
 rw [← ex_] at HS8
 have HX8 := aA.mk ex_
 clear ex_
 obtain ⟨A8, c8, ev_⟩ := Kd.S_slice HS8.out
 subst ev_
 obtain ⟨hi8, e2_⟩ : ∃ n_, n_ = wr.heap.size := ⟨_, rfl⟩
 have ol_ : (gb4 + 1) ≤ hi8 := (by rw [e2_]; exact HT.out)
 have hs_ := Kd.S_mono (ok' := In2 lo3 mm3 (gb4 + 1) hi8) (Kd.S_bound HS8.out) (fun k_ hk_ => by have h1_ := hk_.1; have h2_ := hk_.2.2.1; rw [← e2_] at h2_; (try simp only [In2, Up, In, Ex, Exb] at h1_ ⊢); omega)
 have n0_ := aA.mk (And.intro HORD.out ol_)
 have n1_ := aA.mk (Nat.le_of_eq e2_)
 clear HS8 HORD HT
 have HORD := n0_
 have HT := n1_
 have HS8 := aA.mk hs_
 have HF8 := aA.mk (Kd.S_F hs_)
 have HC8 := aA.mk (Kd.S_reads' hs_).2.1
 clear n0_ n1_ hs_ ol_ e2_
 rcases gk with _ | k1
 rotate_left
 ·have hp_ : 0 ≤ x8 := (by have := HI8.out; omega)
  have hq_ : x8 < (l0_1.length : Int) := (by have := HI8.out; have := HK8.out; omega)
  have hd_ : decide (x8 < (l0_1.length : Int)) = true := decide_eq_true hq_
  have hzgb1_0_8 : wr.cell? ⟨gb1, 0, none⟩ = some (.slice A0_0 l0_0.length c0_0) := (aD BK1.out 0).trans rfl
  have hygb1_0_8 := aC BK1.out 0
  have hzgb1_1_8 : wr.cell? ⟨gb1, 1, none⟩ = some (.slice A0_1 l0_1.length c0_1) := (aD BK1.out 1).trans rfl
  have hygb1_1_8 := aC BK1.out 1
  have hzgb1_2_8 : wr.cell? ⟨gb1, 2, none⟩ = some (.int .i64 a0_2) := (aD BK1.out 2).trans rfl
  have hygb1_2_8 := aC BK1.out 2
  have hzgb1_3_8 : wr.cell? ⟨gb1, 3, none⟩ = some (.bool a0_3) := (aD BK1.out 3).trans rfl
  have hygb1_3_8 := aC BK1.out 3
  have hzgb2_0_8 : wr.cell? ⟨gb2, 0, none⟩ = some (.slice none 0 0) := (aD BK2.out 0).trans rfl
  have hygb2_0_8 := aC BK2.out 0
  have hzgb2_1_8 : wr.cell? ⟨gb2, 1, none⟩ = some (.slice none 0 0) := (aD BK2.out 1).trans rfl
  have hygb2_1_8 := aC BK2.out 1
  have hzgb2_2_8 : wr.cell? ⟨gb2, 2, none⟩ = some (.int .i64 0) := (aD BK2.out 2).trans rfl
  have hygb2_2_8 := aC BK2.out 2
  have hzgb2_3_8 : wr.cell? ⟨gb2, 3, none⟩ = some (.bool false) := (aD BK2.out 3).trans rfl
  have hygb2_3_8 := aC BK2.out 3
  have hzgb4_0_8 : wr.cell? ⟨gb4, 0, none⟩ = some (.slice A8 xs8.length c8) := (aD BK4.out 0).trans rfl
  have hygb4_0_8 := aC BK4.out 0
  have hzgb4_1_8 : wr.cell? ⟨gb4, 1, none⟩ = some (.slice A3_1 l0_1.length c3_1) := (aD BK4.out 1).trans rfl
  have hygb4_1_8 := aC BK4.out 1
  have hzgb4_2_8 : wr.cell? ⟨gb4, 2, none⟩ = some (.int .i64 a0_2) := (aD BK4.out 2).trans rfl
  have hygb4_2_8 := aC BK4.out 2
  have hzgb4_3_8 : wr.cell? ⟨gb4, 3, none⟩ = some (.bool a0_3) := (aD BK4.out 3).trans rfl
  have hygb4_3_8 := aC BK4.out 3
  obtain ⟨ji8, hji_⟩ : ∃ j_ : Int, shr .i64 a1 x8 = j_ := ⟨_, rfl⟩
  have hji1_ : (a1 / 2 ^ min x8.toNat 64) = ji8 := hji_
  have hji2_ : x8 ≤ 64 → (a1 / 2 ^ x8.toNat) = ji8 := shr_small hji_
  have hx0_ := eq_true hp_
  have HJ8 := aA.mk hji_
  rcases (show (x8 < 30 ∧ Go.bits .and .i64 ji8 1 = 1) ∨ (x8 < 30 ∧ ¬ Go.bits .and .i64 ji8 1 = 1) ∨ ¬ x8 < 30 from by by_cases a_ : x8 < 30 <;> by_cases b_ : Go.bits .and .i64 ji8 1 = 1 <;> simp [a_, b_]) with ⟨a_, b_⟩ | ⟨a_, b_⟩ | a_
  ·have WA_ := aA.mk a_
   have WB_ := aA.mk b_
   have c28_ : decide (x8 < 30) = true := decide_eq_true a_
   have c31_ : ((Go.bits .and .i64 ji8 1) == 1) = true := beq_iff_eq.mpr b_
   have c32_ : ((Go.bits .and .i64 ji8 1) != 1) = false := bne_eq_false_iff_eq.mpr b_
   clear a_ b_
   obtain ⟨ad9, Ae9, ce9, ee9, hx9_0, hx9_1, hl9, hf9⟩ := F_wr HF3_1.out x8 hp_ hq_
   cases ee9
   have HF9 := aA.mk hf9
   have HC9 := aA.mk hl9
   clear hf9 hl9
   go_wp2_with (first | ((with_reducible refine gate_dst (N := 7) rfl ?_); refine box_event ?hg (N := 7) ?hd (cs := #[.int .i64 0, .slice none 0 0]) (t := 50) ?hr ?_; (case hd => rfl); (case hg => rfl); (case hr => first | (go_simp; done) | (go_simp; rfl)); intro gb10 hg_ w10 hbox hb; have hge_ : hi8 ≤ gb10 := (by rw [hg_]; exact HT.out); have hlt_ : gb10 + 1 ≤ w10.heap.size := blk_lt hbox; have n0_ := aA.mk (Kd.aZ HF0_0.out hb); have n1_ := aA.mk (Kd.aZ HF0_1.out hb); have n2_ := aA.mk (Kd.aZ HF3_1.out hb); have n3_ := aA.mk (Kd.S_below HS3_1.out hb); have n4_ := aA.mk (Kd.aZ HF8.out hb); have n5_ := aA.mk (Kd.S_below HS8.out hb); have n6_ := aA.mk (Kd.aZ HF9.out hb); have n7_ := aA.mk (aW BK1.out hb); have n8_ := aA.mk (aW BK2.out hb); have n9_ := aA.mk (aW BK4.out hb); have n10_ := aA.mk (bD HB.out hb); have n11_ := aA.mk (hbox); have n12_ := aA.mk (And.intro HORD.out (And.intro hge_ (Nat.le_succ gb10))); have n13_ := aA.mk (hlt_); (try clear HF0_0); (try clear HF0_1); (try clear HF3_1); (try clear HS3_1); (try clear HF8); (try clear HS8); (try clear HF9); (try clear BK1); (try clear BK2); (try clear BK4); (try clear HB); (try clear BK10); (try clear HORD); (try clear HT); have HF0_0 := n0_; have HF0_1 := n1_; have HF3_1 := n2_; have HS3_1 := n3_; have HF8 := n4_; have HS8 := n5_; have HF9 := n6_; have BK1 := n7_; have BK2 := n8_; have BK4 := n9_; have HB := n10_; have BK10 := n11_; have HORD := n12_; have HT := n13_; clear n0_ n1_ n2_ n3_ n4_ n5_ n6_ n7_ n8_ n9_ n10_ n11_ n12_ n13_; clear hb hbox hg_ hge_ hlt_; have hzgb1_0_10 : w10.cell? ⟨gb1, 0, none⟩ = some (.slice A0_0 l0_0.length c0_0) := (aD BK1.out 0).trans rfl; have hygb1_0_10 := aC BK1.out 0; have hzgb1_1_10 : w10.cell? ⟨gb1, 1, none⟩ = some (.slice A0_1 l0_1.length c0_1) := (aD BK1.out 1).trans rfl; have hygb1_1_10 := aC BK1.out 1; have hzgb1_2_10 : w10.cell? ⟨gb1, 2, none⟩ = some (.int .i64 a0_2) := (aD BK1.out 2).trans rfl; have hygb1_2_10 := aC BK1.out 2; have hzgb1_3_10 : w10.cell? ⟨gb1, 3, none⟩ = some (.bool a0_3) := (aD BK1.out 3).trans rfl; have hygb1_3_10 := aC BK1.out 3; have hzgb2_0_10 : w10.cell? ⟨gb2, 0, none⟩ = some (.slice none 0 0) := (aD BK2.out 0).trans rfl; have hygb2_0_10 := aC BK2.out 0; have hzgb2_1_10 : w10.cell? ⟨gb2, 1, none⟩ = some (.slice none 0 0) := (aD BK2.out 1).trans rfl; have hygb2_1_10 := aC BK2.out 1; have hzgb2_2_10 : w10.cell? ⟨gb2, 2, none⟩ = some (.int .i64 0) := (aD BK2.out 2).trans rfl; have hygb2_2_10 := aC BK2.out 2; have hzgb2_3_10 : w10.cell? ⟨gb2, 3, none⟩ = some (.bool false) := (aD BK2.out 3).trans rfl; have hygb2_3_10 := aC BK2.out 3; have hzgb4_0_10 : w10.cell? ⟨gb4, 0, none⟩ = some (.slice A8 xs8.length c8) := (aD BK4.out 0).trans rfl; have hygb4_0_10 := aC BK4.out 0; have hzgb4_1_10 : w10.cell? ⟨gb4, 1, none⟩ = some (.slice (some ad9) l0_1.length c3_1) := (aD BK4.out 1).trans rfl; have hygb4_1_10 := aC BK4.out 1; have hzgb4_2_10 : w10.cell? ⟨gb4, 2, none⟩ = some (.int .i64 a0_2) := (aD BK4.out 2).trans rfl; have hygb4_2_10 := aC BK4.out 2; have hzgb4_3_10 : w10.cell? ⟨gb4, 3, none⟩ = some (.bool a0_3) := (aD BK4.out 3).trans rfl; have hygb4_3_10 := aC BK4.out 3; have hzgb10_0_10 : w10.cell? ⟨gb10, 0, none⟩ = some (.int .i64 0) := (aD BK10.out 0).trans rfl; have hygb10_0_10 := aC BK10.out 0; have hzgb10_1_10 : w10.cell? ⟨gb10, 1, none⟩ = some (.slice none 0 0) := (aD BK10.out 1).trans rfl; have hygb10_1_10 := aC BK10.out 1) | ((with_reducible refine gate_store (t := 50) (p := 7) rfl ?_); refine store_event (t := 50) (p := 7) (v := ?vo_w11) (w1 := ((w10.setCell ⟨gb10, 0, none⟩ (.int .i64 ((rdW l0_1 x8).f0))).setCell ⟨gb10, 1, none⟩ (.slice Ae9 ((rdW l0_1 x8).f1).length ce9))) ?hg ?ho ?hn ?hr ?_; (case ho => rfl); (case hg => rfl); (case hn => rfl); (case hr => first | (go_simp; done) | (go_simp; rfl)); intro w11 hw_; have hkp : Kept w10 w11 (fun k_ => k_ = gb10) := (by rw [hw_]; exact Kept.setCell (Kept.setCell (Kept.refl w10 (fun k_ => k_ = gb10)) (.inl rfl) (.int .i64 ((rdW l0_1 x8).f0))) (.inl rfl) (.slice Ae9 ((rdW l0_1 x8).f1).length ce9)); have hge_ : w.heap.size ≤ gb10 := (by have o_ := HORD.out; (try unfold In at *); (try show _ ≠ _); omega); have hbn_ : Below w.heap.size w w11 := (by rw [hw_]; exact aE (aE (HB.out) hge_) hge_); have hbk_ : w11.heap[gb10]? = some (.cells #[.int .i64 ((rdW l0_1 x8).f0), .slice Ae9 ((rdW l0_1 x8).f1).length ce9] 50 (0, 0)) := (by rw [hw_]; exact bE (cs := #[.int .i64 ((rdW l0_1 x8).f0), .slice none 0 0]) (cs' := #[.int .i64 ((rdW l0_1 x8).f0), .slice Ae9 ((rdW l0_1 x8).f1).length ce9]) (bE (cs := #[.int .i64 0, .slice none 0 0]) (cs' := #[.int .i64 ((rdW l0_1 x8).f0), .slice none 0 0]) (BK10.out) 0 _ rfl) 1 _ rfl); have hsz_ : (gb10 + 1) ≤ w11.heap.size := Nat.le_trans HT.out hkp.1; have n0_ := aA.mk (Kd.bF HF0_0.out hkp (fun k_ h1_ h2_ => by have o_ := HORD.out; have t_ := HT.out; (try simp only [In2, Up, In, Ex, Exb] at h1_ h2_); omega)); have n1_ := aA.mk (Kd.bF HF0_1.out hkp (fun k_ h1_ h2_ => by have o_ := HORD.out; have t_ := HT.out; (try simp only [In2, Up, In, Ex, Exb] at h1_ h2_); omega)); have n2_ := aA.mk (Kd.bF HF3_1.out hkp (fun k_ h1_ h2_ => by have o_ := HORD.out; have t_ := HT.out; (try simp only [In2, Up, In, Ex, Exb] at h1_ h2_); omega)); have n3_ := aA.mk (Kd.S_kept HS3_1.out hkp (fun k_ h1_ h2_ => by have o_ := HORD.out; have t_ := HT.out; (try simp only [In2, Up, In, Ex, Exb] at h1_ h2_); omega)); have n4_ := aA.mk (Kd.bF HF8.out hkp (fun k_ h1_ h2_ => by have o_ := HORD.out; have t_ := HT.out; (try simp only [In2, Up, In, Ex, Exb] at h1_ h2_); omega)); have n5_ := aA.mk (Kd.S_kept HS8.out hkp (fun k_ h1_ h2_ => by have o_ := HORD.out; have t_ := HT.out; (try simp only [In2, Up, In, Ex, Exb] at h1_ h2_); omega)); have n6_ := aA.mk (Kd.bF HF9.out hkp (fun k_ h1_ h2_ => by have o_ := HORD.out; have t_ := HT.out; (try simp only [In2, Up, In, Ex, Exb] at h1_ h2_); omega)); have n7_ := aA.mk (bG BK1.out hkp (fun h2_ => by have o_ := HORD.out; have t_ := HT.out; (try simp only [In2, Up, In, Ex, Exb] at h2_); omega)); have n8_ := aA.mk (bG BK2.out hkp (fun h2_ => by have o_ := HORD.out; have t_ := HT.out; (try simp only [In2, Up, In, Ex, Exb] at h2_); omega)); have n9_ := aA.mk (bG BK4.out hkp (fun h2_ => by have o_ := HORD.out; have t_ := HT.out; (try simp only [In2, Up, In, Ex, Exb] at h2_); omega)); have n10_ := aA.mk (hbn_); have n11_ := aA.mk (hbk_); have n12_ := aA.mk (hsz_); (try clear HF0_0); (try clear HF0_1); (try clear HF3_1); (try clear HS3_1); (try clear HF8); (try clear HS8); (try clear HF9); (try clear BK1); (try clear BK2); (try clear BK4); (try clear HB); (try clear BK10); (try clear HT); have HF0_0 := n0_; have HF0_1 := n1_; have HF3_1 := n2_; have HS3_1 := n3_; have HF8 := n4_; have HS8 := n5_; have HF9 := n6_; have BK1 := n7_; have BK2 := n8_; have BK4 := n9_; have HB := n10_; have BK10 := n11_; have HT := n12_; clear n0_ n1_ n2_ n3_ n4_ n5_ n6_ n7_ n8_ n9_ n10_ n11_ n12_; clear hw_ hkp hge_ hbn_ hbk_ hsz_; have hzgb1_0_11 : w11.cell? ⟨gb1, 0, none⟩ = some (.slice A0_0 l0_0.length c0_0) := (aD BK1.out 0).trans rfl; have hygb1_0_11 := aC BK1.out 0; have hzgb1_1_11 : w11.cell? ⟨gb1, 1, none⟩ = some (.slice A0_1 l0_1.length c0_1) := (aD BK1.out 1).trans rfl; have hygb1_1_11 := aC BK1.out 1; have hzgb1_2_11 : w11.cell? ⟨gb1, 2, none⟩ = some (.int .i64 a0_2) := (aD BK1.out 2).trans rfl; have hygb1_2_11 := aC BK1.out 2; have hzgb1_3_11 : w11.cell? ⟨gb1, 3, none⟩ = some (.bool a0_3) := (aD BK1.out 3).trans rfl; have hygb1_3_11 := aC BK1.out 3; have hzgb2_0_11 : w11.cell? ⟨gb2, 0, none⟩ = some (.slice none 0 0) := (aD BK2.out 0).trans rfl; have hygb2_0_11 := aC BK2.out 0; have hzgb2_1_11 : w11.cell? ⟨gb2, 1, none⟩ = some (.slice none 0 0) := (aD BK2.out 1).trans rfl; have hygb2_1_11 := aC BK2.out 1; have hzgb2_2_11 : w11.cell? ⟨gb2, 2, none⟩ = some (.int .i64 0) := (aD BK2.out 2).trans rfl; have hygb2_2_11 := aC BK2.out 2; have hzgb2_3_11 : w11.cell? ⟨gb2, 3, none⟩ = some (.bool false) := (aD BK2.out 3).trans rfl; have hygb2_3_11 := aC BK2.out 3; have hzgb4_0_11 : w11.cell? ⟨gb4, 0, none⟩ = some (.slice A8 xs8.length c8) := (aD BK4.out 0).trans rfl; have hygb4_0_11 := aC BK4.out 0; have hzgb4_1_11 : w11.cell? ⟨gb4, 1, none⟩ = some (.slice (some ad9) l0_1.length c3_1) := (aD BK4.out 1).trans rfl; have hygb4_1_11 := aC BK4.out 1; have hzgb4_2_11 : w11.cell? ⟨gb4, 2, none⟩ = some (.int .i64 a0_2) := (aD BK4.out 2).trans rfl; have hygb4_2_11 := aC BK4.out 2; have hzgb4_3_11 : w11.cell? ⟨gb4, 3, none⟩ = some (.bool a0_3) := (aD BK4.out 3).trans rfl; have hygb4_3_11 := aC BK4.out 3; have hzgb10_0_11 : w11.cell? ⟨gb10, 0, none⟩ = some (.int .i64 ((rdW l0_1 x8).f0)) := (aD BK10.out 0).trans rfl; have hygb10_0_11 := aC BK10.out 0; have hzgb10_1_11 : w11.cell? ⟨gb10, 1, none⟩ = some (.slice Ae9 ((rdW l0_1 x8).f1).length ce9) := (aD BK10.out 1).trans rfl; have hygb10_1_11 := aC BK10.out 1))
   have n_ := aA.mk (Kd.F_drew HF0_0.out)
   clear HF0_0
   have HF0_0 := n_
   clear n_
   have n_ := aA.mk (Kd.F_drew HF0_1.out)
   clear HF0_1
   have HF0_1 := n_
   clear n_
   have n_ := aA.mk (Kd.F_drew HF3_1.out)
   clear HF3_1
   have HF3_1 := n_
   clear n_
   have n_ := aA.mk (Kd.S_drew HS3_1.out)
   clear HS3_1
   have HS3_1 := n_
   clear n_
   have n_ := aA.mk (Kd.F_drew HF8.out)
   clear HF8
   have HF8 := n_
   clear n_
   have n_ := aA.mk (Kd.S_drew HS8.out)
   clear HS8
   have HS8 := n_
   clear n_
   have n_ := aA.mk (Kd.F_drew HF9.out)
   clear HF9
   have HF9 := n_
   clear n_
   have n_ := aA.mk (aN BK1.out)
   clear BK1
   have BK1 := n_
   clear n_
   have n_ := aA.mk (aN BK2.out)
   clear BK2
   have BK2 := n_
   clear n_
   have n_ := aA.mk (aN BK4.out)
   clear BK4
   have BK4 := n_
   clear n_
   have n_ := aA.mk (aN BK10.out)
   clear BK10
   have BK10 := n_
   clear n_
   have n_ := aA.mk (aJ HB.out)
   clear HB
   have HB := n_
   clear n_
   have n_ := aA.mk (show _ ≤ w11.drew.heap.size from HT.out)
   clear HT
   have HT := n_
   clear n_
   refine start_ (n := 10) (S := fun w' => w'.cell? ⟨gb4, 0, none⟩ = some (.slice A8 xs8.length c8) ∧ w'.cell? ⟨gb4, 1, none⟩ = some (.slice (some ad9) l0_1.length c3_1) ∧ w'.cell? ⟨gb4, 2, none⟩ = some (.int .i64 a0_2) ∧ w'.cell? ⟨gb4, 3, none⟩ = some (.bool a0_3) ∧ w'.cell? ⟨gb10, 0, none⟩ = some (.int .i64 ((rdW l0_1 x8).f0)) ∧ w'.cell? ⟨gb10, 1, none⟩ = some (.slice Ae9 ((rdW l0_1 x8).f1).length ce9)) (ds := [9]) #[false, false, false, false, false, false, false, false, false, false] (by kernel_rfl) rfl rfl ⟨(aD BK4.out 0).trans rfl, (aD BK4.out 1).trans rfl, (aD BK4.out 2).trans rfl, (aD BK4.out 3).trans rfl, (aD BK10.out 0).trans rfl, (aD BK10.out 1).trans rfl⟩ (fun hHeld => ?_)
   generalize w11.drew = w12 at HF0_0 HF0_1 HF3_1 HS3_1 HF8 HS8 HF9 BK1 BK2 BK4 BK10 HB HT hHeld ⊢
   refine bB (i := 0) (N := some 34) (v := ?_) (a' := ?_) #[true, false, false, false, false, false, false, false, false, false] rfl rfl (by kernel_rfl) (fun _ _ _ h => h) (Or.inl ⟨by rfl, ?_⟩) ?_ ?_
   rotate_left
   ·intro w'
    go_simp
    with_reducible rfl
   rotate_left
   ·simp only [Act.put, lA, lB, lC, aU, aT]
    rfl
   refine take_ (i := 1) (N := some 35) (v := ?_) (a' := ?_) #[true, true, false, false, false, false, false, false, false, false] rfl rfl (by kernel_rfl) (fun _ _ _ h => h) (Or.inl ⟨by rfl, ?_⟩) hHeld ?_ ?_
   rotate_left
   ·rintro w' ⟨s0, s1, s2, s3, s4, s5⟩
    go_simp
    with_reducible rfl
   rotate_left
   ·simp only [Act.put, lA, lB, lC, aU, aT]
    rfl
   refine bB (i := 2) (N := some 36) (v := ?_) (a' := ?_) #[true, true, true, false, false, false, false, false, false, false] rfl rfl (by kernel_rfl) (fun _ _ _ h => h) (Or.inl ⟨by rfl, ?_⟩) ?_ ?_
   rotate_left
   ·intro w'
    go_simp
    with_reducible rfl
   rotate_left
   ·simp only [Act.put, lA, lB, lC, aU, aT]
    rfl
   refine take_ (i := 3) (N := some 37) (v := ?_) (a' := ?_) #[true, true, true, true, false, false, false, false, false, false] rfl rfl (by kernel_rfl) (fun _ _ _ h => h) (Or.inl ⟨by rfl, ?_⟩) hHeld ?_ ?_
   rotate_left
   ·rintro w' ⟨s0, s1, s2, s3, s4, s5⟩
    go_simp
    with_reducible rfl
   rotate_left
   ·simp only [Act.put, lA, lB, lC, aU, aT]
    rfl
   refine bB (i := 4) (N := some 38) (v := ?_) (a' := ?_) #[true, true, true, true, true, false, false, false, false, false] rfl rfl (by kernel_rfl) (fun _ _ _ h => h) (Or.inl ⟨by rfl, ?_⟩) ?_ ?_
   rotate_left
   ·intro w'
    go_simp
    with_reducible rfl
   rotate_left
   ·simp only [Act.put, lA, lB, lC, aU, aT]
    rfl
   refine take_ (i := 5) (N := some 39) (v := ?_) (a' := ?_) #[true, true, true, true, true, true, false, false, false, false] rfl rfl (by kernel_rfl) (fun _ _ _ h => h) (Or.inl ⟨by rfl, ?_⟩) hHeld ?_ ?_
   rotate_left
   ·rintro w' ⟨s0, s1, s2, s3, s4, s5⟩
    go_simp
    with_reducible rfl
   rotate_left
   ·simp only [Act.put, lA, lB, lC, aU, aT]
    rfl
   refine one_ (i := 6) (N := some 40) #[true, true, true, true, true, true, true, false, false, false] rfl rfl (by kernel_rfl) (by decide) (fun K hK => ?_)
   refine Kd.N_lit_step (Kd.slice 5 (Kd.int .u8)) _ 37 ?hg (N' := 40) ?hd (xs := ([(rdW l0_1 x8).f1] : List (List (Int)))) (inner := [.slice Ae9 ((rdW l0_1 x8).f1).length ce9]) (ok := (fun k_ => (In mm3 hi3) k_ ∨ (gb10 + 1) ≤ k_)) (okp := (In mm3 hi3)) ?hr ?hp (fun _ hk => .inl hk) (.inr HT.out) (Below.refl _ _) (Nat.le_refl _) (by simp) ?_
   (case hd => rfl)
   (case hg => rfl)
   (case hr => first | (go_simp; done) | (go_simp; rfl))
   (case hp => exact (Reps.one (Kd.FK_slice_mk HC9.out HF9.out) (Reps.none _ _)))
   intro vl13 w13 ho_ hb hg_ hat_
   obtain ⟨A13, c13, ev_⟩ := Kd.N_slice ho_
   subst ev_
   have n0_ := aA.mk (Kd.aZ HF0_0.out hb)
   have n1_ := aA.mk (Kd.aZ HF0_1.out hb)
   have n2_ := aA.mk (Kd.aZ HF3_1.out hb)
   have n3_ := aA.mk (Kd.S_below HS3_1.out hb)
   have n4_ := aA.mk (Kd.aZ HF8.out hb)
   have n5_ := aA.mk (Kd.S_below HS8.out hb)
   have n6_ := aA.mk (Kd.aZ HF9.out hb)
   have n7_ := aA.mk (aW BK1.out hb)
   have n8_ := aA.mk (aW BK2.out hb)
   have n9_ := aA.mk (aW BK4.out hb)
   have n10_ := aA.mk (aW BK10.out hb)
   have n11_ := aA.mk (bD HB.out hb)
   have n12_ := aA.mk (Nat.le_trans HT.out hb.size)
   have n13_ := aA.mk (Kd.N_F ho_)
   have n14_ := aA.mk ((Kd.N_reads' ho_).2.1)
   (try clear HF0_0)
   (try clear HF0_1)
   (try clear HF3_1)
   (try clear HS3_1)
   (try clear HF8)
   (try clear HS8)
   (try clear HF9)
   (try clear BK1)
   (try clear BK2)
   (try clear BK4)
   (try clear BK10)
   (try clear HB)
   (try clear HT)
   (try clear HF13)
   (try clear HC13)
   have HF0_0 := n0_
   have HF0_1 := n1_
   have HF3_1 := n2_
   have HS3_1 := n3_
   have HF8 := n4_
   have HS8 := n5_
   have HF9 := n6_
   have BK1 := n7_
   have BK2 := n8_
   have BK4 := n9_
   have BK10 := n10_
   have HB := n11_
   have HT := n12_
   have HF13 := n13_
   have HC13 := n14_
   clear n0_ n1_ n2_ n3_ n4_ n5_ n6_ n7_ n8_ n9_ n10_ n11_ n12_ n13_ n14_
   clear hb ho_ hg_ hat_
   refine hK.out _ _ ⟨(aD BK4.out 0).trans rfl, (aD BK4.out 1).trans rfl, (aD BK4.out 2).trans rfl, (aD BK4.out 3).trans rfl, (aD BK10.out 0).trans rfl, (aD BK10.out 1).trans rfl⟩ (fun hHeld => ?_)
   clear hK K
   refine norm_ (a' := ?_) ?_ ?_
   rotate_left
   ·show Act.put _ (some 40) _ = _
    simp only [Act.put, lA, lB, lC, aU, aT]
    rfl
   refine one_ (i := 7) (N := some 41) #[true, true, true, true, true, true, true, true, false, false] rfl rfl (by kernel_rfl) (by decide) (fun K hK => ?_)
   obtain ⟨kj15, hj_⟩ := joined1 ((rdW l0_1 x8).f1) (by exact getW_len hok1 _)
   have J15 := aA.mk hj_
   clear hj_
   refine goes_ Try.func55 (by kernel_rfl) rfl #[.slice A13 (([(rdW l0_1 x8).f1] : List (List (Int)))).length c13] (by rfl) rfl rfl (by (try simp only [List.map_toArray, List.map_cons, List.map_nil]); first | done | rfl | (simp only [List.length_drop, List.length_take]; rfl)) ?_
   (with_reducible refine (impl_joined.calls kj15 _ _ (([(rdW l0_1 x8).f1] : List (List (Int)))) ((rdW l0_1 x8).f1) _ ?s1 ?s2 J15.out).mono ?_)
   (case s1 => exact (Kd.F_now HF13.out))
   (case s2 => exact HC13.out)
   rintro e_ w14 ⟨v0_, rfl, ho0, hb⟩
   refine ⟨_, rfl, ?_⟩
   obtain ⟨lo14, hi14, el_, eh_, ol_, oh_⟩ := Mem.times HT.out hb
   (try rw [← el_] at ho0)
   obtain ⟨A14_0, c14_0, ev_, hc0_, hf0_, hs0_⟩ := Mem.new_R ho0 eh_
   subst ev_
   have n0_ := aA.mk (Kd.aZ HF0_0.out hb)
   have n1_ := aA.mk (Kd.aZ HF0_1.out hb)
   have n2_ := aA.mk (Kd.aZ HF3_1.out hb)
   have n3_ := aA.mk (Kd.S_below HS3_1.out hb)
   have n4_ := aA.mk (Kd.aZ HF8.out hb)
   have n5_ := aA.mk (Kd.S_below HS8.out hb)
   have n6_ := aA.mk (Kd.aZ HF9.out hb)
   have n7_ := aA.mk (Kd.aZ HF13.out hb)
   have n8_ := aA.mk (aW BK1.out hb)
   have n9_ := aA.mk (aW BK2.out hb)
   have n10_ := aA.mk (aW BK4.out hb)
   have n11_ := aA.mk (aW BK10.out hb)
   have n12_ := aA.mk (bD HB.out hb)
   have n13_ := aA.mk (hf0_)
   have n14_ := aA.mk (hc0_)
   have n15_ := aA.mk (hs0_)
   have n16_ := aA.mk (And.intro HORD.out (And.intro ol_ oh_))
   have n17_ := aA.mk (Nat.le_of_eq eh_)
   (try clear HF0_0)
   (try clear HF0_1)
   (try clear HF3_1)
   (try clear HS3_1)
   (try clear HF8)
   (try clear HS8)
   (try clear HF9)
   (try clear HF13)
   (try clear BK1)
   (try clear BK2)
   (try clear BK4)
   (try clear BK10)
   (try clear HB)
   (try clear HF14_0)
   (try clear HC14_0)
   (try clear HS14_0)
   (try clear HORD)
   (try clear HT)
   have HF0_0 := n0_
   have HF0_1 := n1_
   have HF3_1 := n2_
   have HS3_1 := n3_
   have HF8 := n4_
   have HS8 := n5_
   have HF9 := n6_
   have HF13 := n7_
   have BK1 := n8_
   have BK2 := n9_
   have BK4 := n10_
   have BK10 := n11_
   have HB := n12_
   have HF14_0 := n13_
   have HC14_0 := n14_
   have HS14_0 := n15_
   have HORD := n16_
   have HT := n17_
   clear n0_ n1_ n2_ n3_ n4_ n5_ n6_ n7_ n8_ n9_ n10_ n11_ n12_ n13_ n14_ n15_ n16_ n17_
   clear ol_ oh_ el_ eh_ ho0 hf0_ hc0_ hs0_
   (try clear hb)
   refine hK.out _ _ ⟨(aD BK4.out 0).trans rfl, (aD BK4.out 1).trans rfl, (aD BK4.out 2).trans rfl, (aD BK4.out 3).trans rfl, (aD BK10.out 0).trans rfl, (aD BK10.out 1).trans rfl⟩ (fun hHeld => ?_)
   clear hK K
   refine norm_ (a' := ?_) ?_ ?_
   rotate_left
   ·show Act.put _ (some 41) _ = _
    simp only [Act.put, lA, lB, lC, aU, aT]
    rfl
   have pI16 : 0 ≤ ((rdW l0_1 x8).f0) := (devOk_at hdo HI8.out (by have := HK8.out; omega)).1
   have qI16 : ((rdW l0_1 x8).f0) < ((xs8).length : Int) := (by have h_ := (devOk_at hdo HI8.out (by have := HK8.out; omega)).2; rw [HX8.out, fallSecs_length]; exact h_)
   obtain ⟨go16, co16, eo_, gb_, gl_, GG_⟩ := Kd.S_form HS8.out (by omega)
   injection eo_ with ea_ en_ ec_
   subst ea_
   subst ec_
   clear en_ GG_ gl_
   have GO16 := aA.mk ((Kd.S_R HS8.out).1 go16 rfl)
   have GB16 := aA.mk gb_
   clear gb_
   obtain ⟨ok_, ce_, hcl_, hM_, hcc_, hfr_, _, _⟩ := Kd.S_elem HS8.out [] ((rdW l0_1 x8).f0) pI16 qI16
   obtain ⟨ua_, rfl, _⟩ := hM_
   have hx16 := hcc_ 0 _ rfl
   have hf16 := hfr_ 0
   (try simp only [show (Kd.slice 5 (Kd.int .u8)).sz = 1 from rfl, Nat.mul_one, Nat.add_zero] at hx16)
   (try simp only [show (Kd.slice 5 (Kd.int .u8)).sz = 1 from rfl, Nat.mul_one, Nat.add_zero] at hf16)
   clear hcl_ hcc_ hfr_
   have PI16 := aA.mk pI16
   have QI16 := aA.mk qI16
   replace pI16 := eq_true pI16
   replace qI16 := eq_true qI16
   refine bB (i := 8) (N := some 42) (v := ?_) (a' := ?_) #[true, true, true, true, true, true, true, true, true, false] rfl rfl (by kernel_rfl) (fun _ _ _ h => h) (Or.inl ⟨by rfl, ?_⟩) ?_ ?_
   rotate_left
   ·intro w'
    go_simp
    with_reducible rfl
   rotate_left
   ·simp only [Act.put, lA, lB, lC, aU, aT]
    rfl
   refine last_ (i := 9) (N := none) #[true, true, true, true, true, true, true, true, true, true] rfl rfl (by kernel_rfl) (by decide) (fun K hK => ?_)
   obtain ⟨ok_, ce_, hcl_, hM_, hcc_, hfr_, hoki_, hH_⟩ := Kd.S_elem (Kd.S_mono (ok' := fun k_ => (Up lo3 mm3 (gb4 + 1)) k_ ∧ ¬ (In lo14 hi14) k_) (Kd.S_lower HS8.out (by have o_ := HORD.out; omega)) (fun k_ hk_ => ⟨(by have o_ := HORD.out; have t_ := HT.out; (try simp only [In2, Up, In, Ex, Exb] at hk_ ⊢); omega), fun h2_ => by have o_ := HORD.out; have t_ := HT.out; (try simp only [In2, Up, In, Ex, Exb] at hk_ h2_); omega⟩) : Kd.S (Kd.slice 5 (Kd.int .u8)) 37 w14 w.heap.size _ (.slice (some ⟨go16, 0, none⟩) xs8.length c8) xs8) [] ((rdW l0_1 x8).f0) PI16.out QI16.out
   obtain ⟨ua_, rfl, _⟩ := hM_
   have hp_ := (Kd.S_seg hH_ PI16.out QI16.out (seg := [.slice A14_0 ((rdW l0_1 x8).f1).length c14_0]) (j := 0) (okp := (In lo14 hi14)) (show 0 + 1 ≤ 1 by decide) (x' := ((rdW l0_1 x8).f1)) (Kd.M_row (Kd.R_lower HS14_0.out (by have o_ := HORD.out; omega))) (fun k_ hk_ => .inr hk_) (fun k_ hk_ => ⟨(by have o_ := HORD.out; have t_ := HT.out; (try simp only [In2, Up, In, Ex, Exb] at hk_ ⊢); omega), by have g_ := GO16.out; have o_ := HORD.out; have t_ := HT.out; (try simp only [In2, Up, In, Ex, Exb] at hk_ g_); omega⟩)).1
   (try simp only [show (Kd.slice 5 (Kd.int .u8)).sz = 1 from rfl, Nat.mul_one, Nat.add_zero] at hp_)
   have HP_ := aA.mk (show Kd.S (Kd.slice 5 (Kd.int .u8)) 37 (w14.setCell ⟨go16, ((rdW l0_1 x8).f0).toNat, none⟩ (.slice A14_0 ((rdW l0_1 x8).f1).length c14_0)) w.heap.size (Up lo3 mm3 (gb4 + 1)) (.slice (some ⟨go16, 0, none⟩) xs8.length c8) (xs8.set ((rdW l0_1 x8).f0).toNat ((rdW l0_1 x8).f1)) from hp_)
   clear hp_ hH_ hoki_ hfr_ hcc_ hcl_
   refine skip_ (w1 := ?_) (by rfl) rfl ?_ ?_
   rotate_left
   ·go_simp
    rfl
   refine hK.out _ _ ?_
   clear hK K
   refine done_ (by kernel_rfl) ?_
   obtain ⟨w17, hw_⟩ : ∃ z_, z_ = (w14.setCell ⟨go16, ((rdW l0_1 x8).f0).toNat, none⟩ (.slice A14_0 ((rdW l0_1 x8).f1).length c14_0)) := ⟨_, rfl⟩
   (try rw [← hw_])
   have hs0_ := HP_.out
   clear HP_
   rw [← hw_] at hs0_
   obtain ⟨ys17, ey_⟩ : ∃ y_, y_ = xs8.set ((rdW l0_1 x8).f0).toNat ((rdW l0_1 x8).f1) := ⟨_, rfl⟩
   rw [← ey_] at hs0_
   have hle_ : ys17.length = (xs8).length := by rw [ey_, List.length_set]
   have HY17 := aA.mk ey_
   clear ey_
   rw [← hle_] at hs0_
   have hkp : Kept w14 w17 (In2 lo3 mm3 (gb4 + 1) hi8) := (by rw [hw_]; exact Kept.setCell (Kept.refl w14 (In2 lo3 mm3 (gb4 + 1) hi8)) (.inl GO16.out) (.slice A14_0 ((rdW l0_1 x8).f1).length c14_0))
   have hbn_ : Below w.heap.size w w17 := (by rw [hw_]; exact aE HB.out (Nat.le_trans (by have o_ := HORD.out; omega) GB16.out))
   obtain ⟨hi17, e2_⟩ : ∃ n_, n_ = w17.heap.size := ⟨_, rfl⟩
   have ol_ : hi14 ≤ hi17 := (by rw [e2_]; exact Nat.le_trans HT.out hkp.1)
   have hs_ := Kd.S_mono (ok' := In2 lo3 mm3 (gb4 + 1) hi17) (Kd.S_bound hs0_) (fun k_ hk_ => by have h1_ := hk_.1; have h2_ := hk_.2.2.1; rw [← e2_] at h2_; (try simp only [In2, Up, In, Ex, Exb] at h1_ ⊢); omega)
   have HL17 := aA.mk hle_
   have n0_ := aA.mk (Kd.bF HF0_0.out hkp (fun k_ h1_ h2_ => by have o_ := HORD.out; have t_ := HT.out; (try simp only [In2, Up, In, Ex, Exb] at h1_ h2_); omega))
   have n1_ := aA.mk (Kd.bF HF0_1.out hkp (fun k_ h1_ h2_ => by have o_ := HORD.out; have t_ := HT.out; (try simp only [In2, Up, In, Ex, Exb] at h1_ h2_); omega))
   have n2_ := aA.mk (Kd.bF HF3_1.out hkp (fun k_ h1_ h2_ => by have o_ := HORD.out; have t_ := HT.out; (try simp only [In2, Up, In, Ex, Exb] at h1_ h2_); omega))
   have n3_ := aA.mk (Kd.S_kept HS3_1.out hkp (fun k_ h1_ h2_ => by have o_ := HORD.out; have t_ := HT.out; (try simp only [In2, Up, In, Ex, Exb] at h1_ h2_); omega))
   have n4_ := aA.mk (Kd.bF HF9.out hkp (fun k_ h1_ h2_ => by have o_ := HORD.out; have t_ := HT.out; (try simp only [In2, Up, In, Ex, Exb] at h1_ h2_); omega))
   have n5_ := aA.mk (bG BK1.out hkp (fun h2_ => by have o_ := HORD.out; have t_ := HT.out; (try simp only [In2, Up, In, Ex, Exb] at h2_); omega))
   have n6_ := aA.mk (bG BK2.out hkp (fun h2_ => by have o_ := HORD.out; have t_ := HT.out; (try simp only [In2, Up, In, Ex, Exb] at h2_); omega))
   have n7_ := aA.mk (bG BK4.out hkp (fun h2_ => by have o_ := HORD.out; have t_ := HT.out; (try simp only [In2, Up, In, Ex, Exb] at h2_); omega))
   have n8_ := aA.mk (bG BK10.out hkp (fun h2_ => by have o_ := HORD.out; have t_ := HT.out; (try simp only [In2, Up, In, Ex, Exb] at h2_); omega))
   have n9_ := aA.mk (hbn_)
   have n10_ := aA.mk (And.intro HORD.out ol_)
   have n11_ := aA.mk (Nat.le_of_eq e2_)
   have n12_ := aA.mk (hs_)
   have n13_ := aA.mk (Kd.S_F hs_)
   have n14_ := aA.mk ((Kd.S_reads' hs_).2.1)
   (try clear HF0_0)
   (try clear HF0_1)
   (try clear HF3_1)
   (try clear HS3_1)
   (try clear HF9)
   (try clear BK1)
   (try clear BK2)
   (try clear BK4)
   (try clear BK10)
   (try clear HB)
   (try clear HORD)
   (try clear HT)
   (try clear HS17)
   (try clear HF17)
   (try clear HC17)
   have HF0_0 := n0_
   have HF0_1 := n1_
   have HF3_1 := n2_
   have HS3_1 := n3_
   have HF9 := n4_
   have BK1 := n5_
   have BK2 := n6_
   have BK4 := n7_
   have BK10 := n8_
   have HB := n9_
   have HORD := n10_
   have HT := n11_
   have HS17 := n12_
   have HF17 := n13_
   have HC17 := n14_
   clear n0_ n1_ n2_ n3_ n4_ n5_ n6_ n7_ n8_ n9_ n10_ n11_ n12_ n13_ n14_
   rw [← hle_] at BK4
   clear hle_ hs_ hs0_ hbn_ hkp ol_ e2_ hw_
   have hzgb1_0_17 : w17.cell? ⟨gb1, 0, none⟩ = some (.slice A0_0 l0_0.length c0_0) := (aD BK1.out 0).trans rfl
   have hygb1_0_17 := aC BK1.out 0
   have hzgb1_1_17 : w17.cell? ⟨gb1, 1, none⟩ = some (.slice A0_1 l0_1.length c0_1) := (aD BK1.out 1).trans rfl
   have hygb1_1_17 := aC BK1.out 1
   have hzgb1_2_17 : w17.cell? ⟨gb1, 2, none⟩ = some (.int .i64 a0_2) := (aD BK1.out 2).trans rfl
   have hygb1_2_17 := aC BK1.out 2
   have hzgb1_3_17 : w17.cell? ⟨gb1, 3, none⟩ = some (.bool a0_3) := (aD BK1.out 3).trans rfl
   have hygb1_3_17 := aC BK1.out 3
   have hzgb2_0_17 : w17.cell? ⟨gb2, 0, none⟩ = some (.slice none 0 0) := (aD BK2.out 0).trans rfl
   have hygb2_0_17 := aC BK2.out 0
   have hzgb2_1_17 : w17.cell? ⟨gb2, 1, none⟩ = some (.slice none 0 0) := (aD BK2.out 1).trans rfl
   have hygb2_1_17 := aC BK2.out 1
   have hzgb2_2_17 : w17.cell? ⟨gb2, 2, none⟩ = some (.int .i64 0) := (aD BK2.out 2).trans rfl
   have hygb2_2_17 := aC BK2.out 2
   have hzgb2_3_17 : w17.cell? ⟨gb2, 3, none⟩ = some (.bool false) := (aD BK2.out 3).trans rfl
   have hygb2_3_17 := aC BK2.out 3
   have hzgb4_0_17 : w17.cell? ⟨gb4, 0, none⟩ = some (.slice (some ⟨go16, 0, none⟩) ys17.length c8) := (aD BK4.out 0).trans rfl
   have hygb4_0_17 := aC BK4.out 0
   have hzgb4_1_17 : w17.cell? ⟨gb4, 1, none⟩ = some (.slice (some ad9) l0_1.length c3_1) := (aD BK4.out 1).trans rfl
   have hygb4_1_17 := aC BK4.out 1
   have hzgb4_2_17 : w17.cell? ⟨gb4, 2, none⟩ = some (.int .i64 a0_2) := (aD BK4.out 2).trans rfl
   have hygb4_2_17 := aC BK4.out 2
   have hzgb4_3_17 : w17.cell? ⟨gb4, 3, none⟩ = some (.bool a0_3) := (aD BK4.out 3).trans rfl
   have hygb4_3_17 := aC BK4.out 3
   have hzgb10_0_17 : w17.cell? ⟨gb10, 0, none⟩ = some (.int .i64 ((rdW l0_1 x8).f0)) := (aD BK10.out 0).trans rfl
   have hygb10_0_17 := aC BK10.out 0
   have hzgb10_1_17 : w17.cell? ⟨gb10, 1, none⟩ = some (.slice Ae9 ((rdW l0_1 x8).f1).length ce9) := (aD BK10.out 1).trans rfl
   have hygb10_1_17 := aC BK10.out 1
   try go_wp2
   go_roundg k1
   case measure => omega
   case rel => exact ⟨i8 + 1, _, _, rfl, ⟨show _ = ((i8 + 1 : Nat) : Int) by have := HI8.out; have hm_ := (okWrS_len hok1); have := HK8.out; first | (rw [w64 (by omega) (by omega)]; omega) | omega⟩, ⟨by have := HK8.out; omega⟩, ⟨Nat.le_trans (by have o_ := HORD.out; omega) HT.out⟩, ⟨by rw [show fallSecs l0_0 l0_1 a1 (i8 + 1) = ys17 from (by rw [HY17.out, HX8.out]; exact fall_t rfl HI8.out HJ8.out WA_.out WB_.out)]; exact Kd.S_mono (Kd.S_lower HS17.out (by have o_ := HORD.out; omega)) (fun k_ hk_ => by have o_ := HORD.out; have t_ := HT.out; (try simp only [In2, Up, In, Ex, Exb] at hk_ ⊢); omega)⟩, HF0_0, HF0_1, HF3_1, HS3_1, BK1, BK2, BK4, HB⟩
  ·have WB_ := aA.mk b_
   have c28_ : decide (x8 < 30) = true := decide_eq_true a_
   have c31_ : ((Go.bits .and .i64 ji8 1) == 1) = false := beq_eq_false_iff_ne.mpr b_
   have c32_ : ((Go.bits .and .i64 ji8 1) != 1) = true := bne_iff_ne.mpr b_
   clear a_ b_
   obtain ⟨ad18, Ae18, ce18, ee18, hx18_0, hx18_1, hl18, hf18⟩ := F_wr HF3_1.out x8 hp_ hq_
   cases ee18
   have HF18 := aA.mk hf18
   have HC18 := aA.mk hl18
   clear hf18 hl18
   go_wp2_with (first | ((with_reducible refine gate_dst (N := 7) rfl ?_); refine box_event ?hg (N := 7) ?hd (cs := #[.int .i64 0, .slice none 0 0]) (t := 50) ?hr ?_; (case hd => rfl); (case hg => rfl); (case hr => first | (go_simp; done) | (go_simp; rfl)); intro gb19 hg_ w19 hbox hb; have hge_ : hi8 ≤ gb19 := (by rw [hg_]; exact HT.out); have hlt_ : gb19 + 1 ≤ w19.heap.size := blk_lt hbox; have n0_ := aA.mk (Kd.aZ HF0_0.out hb); have n1_ := aA.mk (Kd.aZ HF0_1.out hb); have n2_ := aA.mk (Kd.aZ HF3_1.out hb); have n3_ := aA.mk (Kd.S_below HS3_1.out hb); have n4_ := aA.mk (Kd.aZ HF8.out hb); have n5_ := aA.mk (Kd.S_below HS8.out hb); have n6_ := aA.mk (Kd.aZ HF18.out hb); have n7_ := aA.mk (aW BK1.out hb); have n8_ := aA.mk (aW BK2.out hb); have n9_ := aA.mk (aW BK4.out hb); have n10_ := aA.mk (bD HB.out hb); have n11_ := aA.mk (hbox); have n12_ := aA.mk (And.intro HORD.out (And.intro hge_ (Nat.le_succ gb19))); have n13_ := aA.mk (hlt_); (try clear HF0_0); (try clear HF0_1); (try clear HF3_1); (try clear HS3_1); (try clear HF8); (try clear HS8); (try clear HF18); (try clear BK1); (try clear BK2); (try clear BK4); (try clear HB); (try clear BK19); (try clear HORD); (try clear HT); have HF0_0 := n0_; have HF0_1 := n1_; have HF3_1 := n2_; have HS3_1 := n3_; have HF8 := n4_; have HS8 := n5_; have HF18 := n6_; have BK1 := n7_; have BK2 := n8_; have BK4 := n9_; have HB := n10_; have BK19 := n11_; have HORD := n12_; have HT := n13_; clear n0_ n1_ n2_ n3_ n4_ n5_ n6_ n7_ n8_ n9_ n10_ n11_ n12_ n13_; clear hb hbox hg_ hge_ hlt_; have hzgb1_0_19 : w19.cell? ⟨gb1, 0, none⟩ = some (.slice A0_0 l0_0.length c0_0) := (aD BK1.out 0).trans rfl; have hygb1_0_19 := aC BK1.out 0; have hzgb1_1_19 : w19.cell? ⟨gb1, 1, none⟩ = some (.slice A0_1 l0_1.length c0_1) := (aD BK1.out 1).trans rfl; have hygb1_1_19 := aC BK1.out 1; have hzgb1_2_19 : w19.cell? ⟨gb1, 2, none⟩ = some (.int .i64 a0_2) := (aD BK1.out 2).trans rfl; have hygb1_2_19 := aC BK1.out 2; have hzgb1_3_19 : w19.cell? ⟨gb1, 3, none⟩ = some (.bool a0_3) := (aD BK1.out 3).trans rfl; have hygb1_3_19 := aC BK1.out 3; have hzgb2_0_19 : w19.cell? ⟨gb2, 0, none⟩ = some (.slice none 0 0) := (aD BK2.out 0).trans rfl; have hygb2_0_19 := aC BK2.out 0; have hzgb2_1_19 : w19.cell? ⟨gb2, 1, none⟩ = some (.slice none 0 0) := (aD BK2.out 1).trans rfl; have hygb2_1_19 := aC BK2.out 1; have hzgb2_2_19 : w19.cell? ⟨gb2, 2, none⟩ = some (.int .i64 0) := (aD BK2.out 2).trans rfl; have hygb2_2_19 := aC BK2.out 2; have hzgb2_3_19 : w19.cell? ⟨gb2, 3, none⟩ = some (.bool false) := (aD BK2.out 3).trans rfl; have hygb2_3_19 := aC BK2.out 3; have hzgb4_0_19 : w19.cell? ⟨gb4, 0, none⟩ = some (.slice A8 xs8.length c8) := (aD BK4.out 0).trans rfl; have hygb4_0_19 := aC BK4.out 0; have hzgb4_1_19 : w19.cell? ⟨gb4, 1, none⟩ = some (.slice (some ad18) l0_1.length c3_1) := (aD BK4.out 1).trans rfl; have hygb4_1_19 := aC BK4.out 1; have hzgb4_2_19 : w19.cell? ⟨gb4, 2, none⟩ = some (.int .i64 a0_2) := (aD BK4.out 2).trans rfl; have hygb4_2_19 := aC BK4.out 2; have hzgb4_3_19 : w19.cell? ⟨gb4, 3, none⟩ = some (.bool a0_3) := (aD BK4.out 3).trans rfl; have hygb4_3_19 := aC BK4.out 3; have hzgb19_0_19 : w19.cell? ⟨gb19, 0, none⟩ = some (.int .i64 0) := (aD BK19.out 0).trans rfl; have hygb19_0_19 := aC BK19.out 0; have hzgb19_1_19 : w19.cell? ⟨gb19, 1, none⟩ = some (.slice none 0 0) := (aD BK19.out 1).trans rfl; have hygb19_1_19 := aC BK19.out 1) | ((with_reducible refine gate_store (t := 50) (p := 7) rfl ?_); refine store_event (t := 50) (p := 7) (v := ?vo_w20) (w1 := ((w19.setCell ⟨gb19, 0, none⟩ (.int .i64 ((rdW l0_1 x8).f0))).setCell ⟨gb19, 1, none⟩ (.slice Ae18 ((rdW l0_1 x8).f1).length ce18))) ?hg ?ho ?hn ?hr ?_; (case ho => rfl); (case hg => rfl); (case hn => rfl); (case hr => first | (go_simp; done) | (go_simp; rfl)); intro w20 hw_; have hkp : Kept w19 w20 (fun k_ => k_ = gb19) := (by rw [hw_]; exact Kept.setCell (Kept.setCell (Kept.refl w19 (fun k_ => k_ = gb19)) (.inl rfl) (.int .i64 ((rdW l0_1 x8).f0))) (.inl rfl) (.slice Ae18 ((rdW l0_1 x8).f1).length ce18)); have hge_ : w.heap.size ≤ gb19 := (by have o_ := HORD.out; (try unfold In at *); (try show _ ≠ _); omega); have hbn_ : Below w.heap.size w w20 := (by rw [hw_]; exact aE (aE (HB.out) hge_) hge_); have hbk_ : w20.heap[gb19]? = some (.cells #[.int .i64 ((rdW l0_1 x8).f0), .slice Ae18 ((rdW l0_1 x8).f1).length ce18] 50 (0, 0)) := (by rw [hw_]; exact bE (cs := #[.int .i64 ((rdW l0_1 x8).f0), .slice none 0 0]) (cs' := #[.int .i64 ((rdW l0_1 x8).f0), .slice Ae18 ((rdW l0_1 x8).f1).length ce18]) (bE (cs := #[.int .i64 0, .slice none 0 0]) (cs' := #[.int .i64 ((rdW l0_1 x8).f0), .slice none 0 0]) (BK19.out) 0 _ rfl) 1 _ rfl); have hsz_ : (gb19 + 1) ≤ w20.heap.size := Nat.le_trans HT.out hkp.1; have n0_ := aA.mk (Kd.bF HF0_0.out hkp (fun k_ h1_ h2_ => by have o_ := HORD.out; have t_ := HT.out; (try simp only [In2, Up, In, Ex, Exb] at h1_ h2_); omega)); have n1_ := aA.mk (Kd.bF HF0_1.out hkp (fun k_ h1_ h2_ => by have o_ := HORD.out; have t_ := HT.out; (try simp only [In2, Up, In, Ex, Exb] at h1_ h2_); omega)); have n2_ := aA.mk (Kd.bF HF3_1.out hkp (fun k_ h1_ h2_ => by have o_ := HORD.out; have t_ := HT.out; (try simp only [In2, Up, In, Ex, Exb] at h1_ h2_); omega)); have n3_ := aA.mk (Kd.S_kept HS3_1.out hkp (fun k_ h1_ h2_ => by have o_ := HORD.out; have t_ := HT.out; (try simp only [In2, Up, In, Ex, Exb] at h1_ h2_); omega)); have n4_ := aA.mk (Kd.bF HF8.out hkp (fun k_ h1_ h2_ => by have o_ := HORD.out; have t_ := HT.out; (try simp only [In2, Up, In, Ex, Exb] at h1_ h2_); omega)); have n5_ := aA.mk (Kd.S_kept HS8.out hkp (fun k_ h1_ h2_ => by have o_ := HORD.out; have t_ := HT.out; (try simp only [In2, Up, In, Ex, Exb] at h1_ h2_); omega)); have n6_ := aA.mk (Kd.bF HF18.out hkp (fun k_ h1_ h2_ => by have o_ := HORD.out; have t_ := HT.out; (try simp only [In2, Up, In, Ex, Exb] at h1_ h2_); omega)); have n7_ := aA.mk (bG BK1.out hkp (fun h2_ => by have o_ := HORD.out; have t_ := HT.out; (try simp only [In2, Up, In, Ex, Exb] at h2_); omega)); have n8_ := aA.mk (bG BK2.out hkp (fun h2_ => by have o_ := HORD.out; have t_ := HT.out; (try simp only [In2, Up, In, Ex, Exb] at h2_); omega)); have n9_ := aA.mk (bG BK4.out hkp (fun h2_ => by have o_ := HORD.out; have t_ := HT.out; (try simp only [In2, Up, In, Ex, Exb] at h2_); omega)); have n10_ := aA.mk (hbn_); have n11_ := aA.mk (hbk_); have n12_ := aA.mk (hsz_); (try clear HF0_0); (try clear HF0_1); (try clear HF3_1); (try clear HS3_1); (try clear HF8); (try clear HS8); (try clear HF18); (try clear BK1); (try clear BK2); (try clear BK4); (try clear HB); (try clear BK19); (try clear HT); have HF0_0 := n0_; have HF0_1 := n1_; have HF3_1 := n2_; have HS3_1 := n3_; have HF8 := n4_; have HS8 := n5_; have HF18 := n6_; have BK1 := n7_; have BK2 := n8_; have BK4 := n9_; have HB := n10_; have BK19 := n11_; have HT := n12_; clear n0_ n1_ n2_ n3_ n4_ n5_ n6_ n7_ n8_ n9_ n10_ n11_ n12_; clear hw_ hkp hge_ hbn_ hbk_ hsz_; have hzgb1_0_20 : w20.cell? ⟨gb1, 0, none⟩ = some (.slice A0_0 l0_0.length c0_0) := (aD BK1.out 0).trans rfl; have hygb1_0_20 := aC BK1.out 0; have hzgb1_1_20 : w20.cell? ⟨gb1, 1, none⟩ = some (.slice A0_1 l0_1.length c0_1) := (aD BK1.out 1).trans rfl; have hygb1_1_20 := aC BK1.out 1; have hzgb1_2_20 : w20.cell? ⟨gb1, 2, none⟩ = some (.int .i64 a0_2) := (aD BK1.out 2).trans rfl; have hygb1_2_20 := aC BK1.out 2; have hzgb1_3_20 : w20.cell? ⟨gb1, 3, none⟩ = some (.bool a0_3) := (aD BK1.out 3).trans rfl; have hygb1_3_20 := aC BK1.out 3; have hzgb2_0_20 : w20.cell? ⟨gb2, 0, none⟩ = some (.slice none 0 0) := (aD BK2.out 0).trans rfl; have hygb2_0_20 := aC BK2.out 0; have hzgb2_1_20 : w20.cell? ⟨gb2, 1, none⟩ = some (.slice none 0 0) := (aD BK2.out 1).trans rfl; have hygb2_1_20 := aC BK2.out 1; have hzgb2_2_20 : w20.cell? ⟨gb2, 2, none⟩ = some (.int .i64 0) := (aD BK2.out 2).trans rfl; have hygb2_2_20 := aC BK2.out 2; have hzgb2_3_20 : w20.cell? ⟨gb2, 3, none⟩ = some (.bool false) := (aD BK2.out 3).trans rfl; have hygb2_3_20 := aC BK2.out 3; have hzgb4_0_20 : w20.cell? ⟨gb4, 0, none⟩ = some (.slice A8 xs8.length c8) := (aD BK4.out 0).trans rfl; have hygb4_0_20 := aC BK4.out 0; have hzgb4_1_20 : w20.cell? ⟨gb4, 1, none⟩ = some (.slice (some ad18) l0_1.length c3_1) := (aD BK4.out 1).trans rfl; have hygb4_1_20 := aC BK4.out 1; have hzgb4_2_20 : w20.cell? ⟨gb4, 2, none⟩ = some (.int .i64 a0_2) := (aD BK4.out 2).trans rfl; have hygb4_2_20 := aC BK4.out 2; have hzgb4_3_20 : w20.cell? ⟨gb4, 3, none⟩ = some (.bool a0_3) := (aD BK4.out 3).trans rfl; have hygb4_3_20 := aC BK4.out 3; have hzgb19_0_20 : w20.cell? ⟨gb19, 0, none⟩ = some (.int .i64 ((rdW l0_1 x8).f0)) := (aD BK19.out 0).trans rfl; have hygb19_0_20 := aC BK19.out 0; have hzgb19_1_20 : w20.cell? ⟨gb19, 1, none⟩ = some (.slice Ae18 ((rdW l0_1 x8).f1).length ce18) := (aD BK19.out 1).trans rfl; have hygb19_1_20 := aC BK19.out 1))
   go_roundg k1
   case measure => omega
   case rel => exact ⟨i8 + 1, _, _, rfl, ⟨show _ = ((i8 + 1 : Nat) : Int) by have := HI8.out; have hm_ := (okWrS_len hok1); have := HK8.out; first | (rw [w64 (by omega) (by omega)]; omega) | omega⟩, ⟨by have := HK8.out; omega⟩, ⟨Nat.le_trans (by have o_ := HORD.out; omega) HT.out⟩, ⟨by rw [show fallSecs l0_0 l0_1 a1 (i8 + 1) = xs8 from (by rw [HX8.out]; exact fall_f1 rfl HI8.out HJ8.out WB_.out)]; exact Kd.S_mono (Kd.S_lower HS8.out (by have o_ := HORD.out; omega)) (fun k_ hk_ => by have o_ := HORD.out; have t_ := HT.out; (try simp only [In2, Up, In, Ex, Exb] at hk_ ⊢); omega)⟩, HF0_0, HF0_1, HF3_1, HS3_1, BK1, BK2, BK4, HB⟩
  ·have WA_ := aA.mk a_
   have c28_ : decide (x8 < 30) = false := decide_eq_false (by omega)
   clear a_
   obtain ⟨ad21, Ae21, ce21, ee21, hx21_0, hx21_1, hl21, hf21⟩ := F_wr HF3_1.out x8 hp_ hq_
   cases ee21
   have HF21 := aA.mk hf21
   have HC21 := aA.mk hl21
   clear hf21 hl21
   go_wp2_with (first | ((with_reducible refine gate_dst (N := 7) rfl ?_); refine box_event ?hg (N := 7) ?hd (cs := #[.int .i64 0, .slice none 0 0]) (t := 50) ?hr ?_; (case hd => rfl); (case hg => rfl); (case hr => first | (go_simp; done) | (go_simp; rfl)); intro gb22 hg_ w22 hbox hb; have hge_ : hi8 ≤ gb22 := (by rw [hg_]; exact HT.out); have hlt_ : gb22 + 1 ≤ w22.heap.size := blk_lt hbox; have n0_ := aA.mk (Kd.aZ HF0_0.out hb); have n1_ := aA.mk (Kd.aZ HF0_1.out hb); have n2_ := aA.mk (Kd.aZ HF3_1.out hb); have n3_ := aA.mk (Kd.S_below HS3_1.out hb); have n4_ := aA.mk (Kd.aZ HF8.out hb); have n5_ := aA.mk (Kd.S_below HS8.out hb); have n6_ := aA.mk (Kd.aZ HF21.out hb); have n7_ := aA.mk (aW BK1.out hb); have n8_ := aA.mk (aW BK2.out hb); have n9_ := aA.mk (aW BK4.out hb); have n10_ := aA.mk (bD HB.out hb); have n11_ := aA.mk (hbox); have n12_ := aA.mk (And.intro HORD.out (And.intro hge_ (Nat.le_succ gb22))); have n13_ := aA.mk (hlt_); (try clear HF0_0); (try clear HF0_1); (try clear HF3_1); (try clear HS3_1); (try clear HF8); (try clear HS8); (try clear HF21); (try clear BK1); (try clear BK2); (try clear BK4); (try clear HB); (try clear BK22); (try clear HORD); (try clear HT); have HF0_0 := n0_; have HF0_1 := n1_; have HF3_1 := n2_; have HS3_1 := n3_; have HF8 := n4_; have HS8 := n5_; have HF21 := n6_; have BK1 := n7_; have BK2 := n8_; have BK4 := n9_; have HB := n10_; have BK22 := n11_; have HORD := n12_; have HT := n13_; clear n0_ n1_ n2_ n3_ n4_ n5_ n6_ n7_ n8_ n9_ n10_ n11_ n12_ n13_; clear hb hbox hg_ hge_ hlt_; have hzgb1_0_22 : w22.cell? ⟨gb1, 0, none⟩ = some (.slice A0_0 l0_0.length c0_0) := (aD BK1.out 0).trans rfl; have hygb1_0_22 := aC BK1.out 0; have hzgb1_1_22 : w22.cell? ⟨gb1, 1, none⟩ = some (.slice A0_1 l0_1.length c0_1) := (aD BK1.out 1).trans rfl; have hygb1_1_22 := aC BK1.out 1; have hzgb1_2_22 : w22.cell? ⟨gb1, 2, none⟩ = some (.int .i64 a0_2) := (aD BK1.out 2).trans rfl; have hygb1_2_22 := aC BK1.out 2; have hzgb1_3_22 : w22.cell? ⟨gb1, 3, none⟩ = some (.bool a0_3) := (aD BK1.out 3).trans rfl; have hygb1_3_22 := aC BK1.out 3; have hzgb2_0_22 : w22.cell? ⟨gb2, 0, none⟩ = some (.slice none 0 0) := (aD BK2.out 0).trans rfl; have hygb2_0_22 := aC BK2.out 0; have hzgb2_1_22 : w22.cell? ⟨gb2, 1, none⟩ = some (.slice none 0 0) := (aD BK2.out 1).trans rfl; have hygb2_1_22 := aC BK2.out 1; have hzgb2_2_22 : w22.cell? ⟨gb2, 2, none⟩ = some (.int .i64 0) := (aD BK2.out 2).trans rfl; have hygb2_2_22 := aC BK2.out 2; have hzgb2_3_22 : w22.cell? ⟨gb2, 3, none⟩ = some (.bool false) := (aD BK2.out 3).trans rfl; have hygb2_3_22 := aC BK2.out 3; have hzgb4_0_22 : w22.cell? ⟨gb4, 0, none⟩ = some (.slice A8 xs8.length c8) := (aD BK4.out 0).trans rfl; have hygb4_0_22 := aC BK4.out 0; have hzgb4_1_22 : w22.cell? ⟨gb4, 1, none⟩ = some (.slice (some ad21) l0_1.length c3_1) := (aD BK4.out 1).trans rfl; have hygb4_1_22 := aC BK4.out 1; have hzgb4_2_22 : w22.cell? ⟨gb4, 2, none⟩ = some (.int .i64 a0_2) := (aD BK4.out 2).trans rfl; have hygb4_2_22 := aC BK4.out 2; have hzgb4_3_22 : w22.cell? ⟨gb4, 3, none⟩ = some (.bool a0_3) := (aD BK4.out 3).trans rfl; have hygb4_3_22 := aC BK4.out 3; have hzgb22_0_22 : w22.cell? ⟨gb22, 0, none⟩ = some (.int .i64 0) := (aD BK22.out 0).trans rfl; have hygb22_0_22 := aC BK22.out 0; have hzgb22_1_22 : w22.cell? ⟨gb22, 1, none⟩ = some (.slice none 0 0) := (aD BK22.out 1).trans rfl; have hygb22_1_22 := aC BK22.out 1) | ((with_reducible refine gate_store (t := 50) (p := 7) rfl ?_); refine store_event (t := 50) (p := 7) (v := ?vo_w23) (w1 := ((w22.setCell ⟨gb22, 0, none⟩ (.int .i64 ((rdW l0_1 x8).f0))).setCell ⟨gb22, 1, none⟩ (.slice Ae21 ((rdW l0_1 x8).f1).length ce21))) ?hg ?ho ?hn ?hr ?_; (case ho => rfl); (case hg => rfl); (case hn => rfl); (case hr => first | (go_simp; done) | (go_simp; rfl)); intro w23 hw_; have hkp : Kept w22 w23 (fun k_ => k_ = gb22) := (by rw [hw_]; exact Kept.setCell (Kept.setCell (Kept.refl w22 (fun k_ => k_ = gb22)) (.inl rfl) (.int .i64 ((rdW l0_1 x8).f0))) (.inl rfl) (.slice Ae21 ((rdW l0_1 x8).f1).length ce21)); have hge_ : w.heap.size ≤ gb22 := (by have o_ := HORD.out; (try unfold In at *); (try show _ ≠ _); omega); have hbn_ : Below w.heap.size w w23 := (by rw [hw_]; exact aE (aE (HB.out) hge_) hge_); have hbk_ : w23.heap[gb22]? = some (.cells #[.int .i64 ((rdW l0_1 x8).f0), .slice Ae21 ((rdW l0_1 x8).f1).length ce21] 50 (0, 0)) := (by rw [hw_]; exact bE (cs := #[.int .i64 ((rdW l0_1 x8).f0), .slice none 0 0]) (cs' := #[.int .i64 ((rdW l0_1 x8).f0), .slice Ae21 ((rdW l0_1 x8).f1).length ce21]) (bE (cs := #[.int .i64 0, .slice none 0 0]) (cs' := #[.int .i64 ((rdW l0_1 x8).f0), .slice none 0 0]) (BK22.out) 0 _ rfl) 1 _ rfl); have hsz_ : (gb22 + 1) ≤ w23.heap.size := Nat.le_trans HT.out hkp.1; have n0_ := aA.mk (Kd.bF HF0_0.out hkp (fun k_ h1_ h2_ => by have o_ := HORD.out; have t_ := HT.out; (try simp only [In2, Up, In, Ex, Exb] at h1_ h2_); omega)); have n1_ := aA.mk (Kd.bF HF0_1.out hkp (fun k_ h1_ h2_ => by have o_ := HORD.out; have t_ := HT.out; (try simp only [In2, Up, In, Ex, Exb] at h1_ h2_); omega)); have n2_ := aA.mk (Kd.bF HF3_1.out hkp (fun k_ h1_ h2_ => by have o_ := HORD.out; have t_ := HT.out; (try simp only [In2, Up, In, Ex, Exb] at h1_ h2_); omega)); have n3_ := aA.mk (Kd.S_kept HS3_1.out hkp (fun k_ h1_ h2_ => by have o_ := HORD.out; have t_ := HT.out; (try simp only [In2, Up, In, Ex, Exb] at h1_ h2_); omega)); have n4_ := aA.mk (Kd.bF HF8.out hkp (fun k_ h1_ h2_ => by have o_ := HORD.out; have t_ := HT.out; (try simp only [In2, Up, In, Ex, Exb] at h1_ h2_); omega)); have n5_ := aA.mk (Kd.S_kept HS8.out hkp (fun k_ h1_ h2_ => by have o_ := HORD.out; have t_ := HT.out; (try simp only [In2, Up, In, Ex, Exb] at h1_ h2_); omega)); have n6_ := aA.mk (Kd.bF HF21.out hkp (fun k_ h1_ h2_ => by have o_ := HORD.out; have t_ := HT.out; (try simp only [In2, Up, In, Ex, Exb] at h1_ h2_); omega)); have n7_ := aA.mk (bG BK1.out hkp (fun h2_ => by have o_ := HORD.out; have t_ := HT.out; (try simp only [In2, Up, In, Ex, Exb] at h2_); omega)); have n8_ := aA.mk (bG BK2.out hkp (fun h2_ => by have o_ := HORD.out; have t_ := HT.out; (try simp only [In2, Up, In, Ex, Exb] at h2_); omega)); have n9_ := aA.mk (bG BK4.out hkp (fun h2_ => by have o_ := HORD.out; have t_ := HT.out; (try simp only [In2, Up, In, Ex, Exb] at h2_); omega)); have n10_ := aA.mk (hbn_); have n11_ := aA.mk (hbk_); have n12_ := aA.mk (hsz_); (try clear HF0_0); (try clear HF0_1); (try clear HF3_1); (try clear HS3_1); (try clear HF8); (try clear HS8); (try clear HF21); (try clear BK1); (try clear BK2); (try clear BK4); (try clear HB); (try clear BK22); (try clear HT); have HF0_0 := n0_; have HF0_1 := n1_; have HF3_1 := n2_; have HS3_1 := n3_; have HF8 := n4_; have HS8 := n5_; have HF21 := n6_; have BK1 := n7_; have BK2 := n8_; have BK4 := n9_; have HB := n10_; have BK22 := n11_; have HT := n12_; clear n0_ n1_ n2_ n3_ n4_ n5_ n6_ n7_ n8_ n9_ n10_ n11_ n12_; clear hw_ hkp hge_ hbn_ hbk_ hsz_; have hzgb1_0_23 : w23.cell? ⟨gb1, 0, none⟩ = some (.slice A0_0 l0_0.length c0_0) := (aD BK1.out 0).trans rfl; have hygb1_0_23 := aC BK1.out 0; have hzgb1_1_23 : w23.cell? ⟨gb1, 1, none⟩ = some (.slice A0_1 l0_1.length c0_1) := (aD BK1.out 1).trans rfl; have hygb1_1_23 := aC BK1.out 1; have hzgb1_2_23 : w23.cell? ⟨gb1, 2, none⟩ = some (.int .i64 a0_2) := (aD BK1.out 2).trans rfl; have hygb1_2_23 := aC BK1.out 2; have hzgb1_3_23 : w23.cell? ⟨gb1, 3, none⟩ = some (.bool a0_3) := (aD BK1.out 3).trans rfl; have hygb1_3_23 := aC BK1.out 3; have hzgb2_0_23 : w23.cell? ⟨gb2, 0, none⟩ = some (.slice none 0 0) := (aD BK2.out 0).trans rfl; have hygb2_0_23 := aC BK2.out 0; have hzgb2_1_23 : w23.cell? ⟨gb2, 1, none⟩ = some (.slice none 0 0) := (aD BK2.out 1).trans rfl; have hygb2_1_23 := aC BK2.out 1; have hzgb2_2_23 : w23.cell? ⟨gb2, 2, none⟩ = some (.int .i64 0) := (aD BK2.out 2).trans rfl; have hygb2_2_23 := aC BK2.out 2; have hzgb2_3_23 : w23.cell? ⟨gb2, 3, none⟩ = some (.bool false) := (aD BK2.out 3).trans rfl; have hygb2_3_23 := aC BK2.out 3; have hzgb4_0_23 : w23.cell? ⟨gb4, 0, none⟩ = some (.slice A8 xs8.length c8) := (aD BK4.out 0).trans rfl; have hygb4_0_23 := aC BK4.out 0; have hzgb4_1_23 : w23.cell? ⟨gb4, 1, none⟩ = some (.slice (some ad21) l0_1.length c3_1) := (aD BK4.out 1).trans rfl; have hygb4_1_23 := aC BK4.out 1; have hzgb4_2_23 : w23.cell? ⟨gb4, 2, none⟩ = some (.int .i64 a0_2) := (aD BK4.out 2).trans rfl; have hygb4_2_23 := aC BK4.out 2; have hzgb4_3_23 : w23.cell? ⟨gb4, 3, none⟩ = some (.bool a0_3) := (aD BK4.out 3).trans rfl; have hygb4_3_23 := aC BK4.out 3; have hzgb22_0_23 : w23.cell? ⟨gb22, 0, none⟩ = some (.int .i64 ((rdW l0_1 x8).f0)) := (aD BK22.out 0).trans rfl; have hygb22_0_23 := aC BK22.out 0; have hzgb22_1_23 : w23.cell? ⟨gb22, 1, none⟩ = some (.slice Ae21 ((rdW l0_1 x8).f1).length ce21) := (aD BK22.out 1).trans rfl; have hygb22_1_23 := aC BK22.out 1))
   go_roundg k1
   case measure => omega
   case rel => exact ⟨i8 + 1, _, _, rfl, ⟨show _ = ((i8 + 1 : Nat) : Int) by have := HI8.out; have hm_ := (okWrS_len hok1); have := HK8.out; first | (rw [w64 (by omega) (by omega)]; omega) | omega⟩, ⟨by have := HK8.out; omega⟩, ⟨Nat.le_trans (by have o_ := HORD.out; omega) HT.out⟩, ⟨by rw [show fallSecs l0_0 l0_1 a1 (i8 + 1) = xs8 from (by rw [HX8.out]; exact fall_f2 HI8.out (by have := WA_.out; omega))]; exact Kd.S_mono (Kd.S_lower HS8.out (by have o_ := HORD.out; omega)) (fun k_ hk_ => by have o_ := HORD.out; have t_ := HT.out; (try simp only [In2, Up, In, Ex, Exb] at hk_ ⊢); omega)⟩, HF0_0, HF0_1, HF3_1, HS3_1, BK1, BK2, BK4, HB⟩
 have hi0_ : i8 = l0_1.length := (by have := HK8.out; omega)
 have hd_ : decide (x8 < (l0_1.length : Int)) = false := decide_eq_false (by have := HI8.out; omega)
 have eall_ : xs8 = (fallSecs l0_0 l0_1 a1 l0_1.length) := (by rw [HX8.out, hi0_])
 rw [eall_] at HS8 HF8 HC8 BK4
 have hzgb1_0_23 : wr.cell? ⟨gb1, 0, none⟩ = some (.slice A0_0 l0_0.length c0_0) := (aD BK1.out 0).trans rfl
 have hygb1_0_23 := aC BK1.out 0
 have hzgb1_1_23 : wr.cell? ⟨gb1, 1, none⟩ = some (.slice A0_1 l0_1.length c0_1) := (aD BK1.out 1).trans rfl
 have hygb1_1_23 := aC BK1.out 1
 have hzgb1_2_23 : wr.cell? ⟨gb1, 2, none⟩ = some (.int .i64 a0_2) := (aD BK1.out 2).trans rfl
 have hygb1_2_23 := aC BK1.out 2
 have hzgb1_3_23 : wr.cell? ⟨gb1, 3, none⟩ = some (.bool a0_3) := (aD BK1.out 3).trans rfl
 have hygb1_3_23 := aC BK1.out 3
 have hzgb2_0_23 : wr.cell? ⟨gb2, 0, none⟩ = some (.slice none 0 0) := (aD BK2.out 0).trans rfl
 have hygb2_0_23 := aC BK2.out 0
 have hzgb2_1_23 : wr.cell? ⟨gb2, 1, none⟩ = some (.slice none 0 0) := (aD BK2.out 1).trans rfl
 have hygb2_1_23 := aC BK2.out 1
 have hzgb2_2_23 : wr.cell? ⟨gb2, 2, none⟩ = some (.int .i64 0) := (aD BK2.out 2).trans rfl
 have hygb2_2_23 := aC BK2.out 2
 have hzgb2_3_23 : wr.cell? ⟨gb2, 3, none⟩ = some (.bool false) := (aD BK2.out 3).trans rfl
 have hygb2_3_23 := aC BK2.out 3
 have hzgb4_0_23 : wr.cell? ⟨gb4, 0, none⟩ = some (.slice A8 ((fallSecs l0_0 l0_1 a1 l0_1.length)).length c8) := (aD BK4.out 0).trans rfl
 have hygb4_0_23 := aC BK4.out 0
 have hzgb4_1_23 : wr.cell? ⟨gb4, 1, none⟩ = some (.slice A3_1 l0_1.length c3_1) := (aD BK4.out 1).trans rfl
 have hygb4_1_23 := aC BK4.out 1
 have hzgb4_2_23 : wr.cell? ⟨gb4, 2, none⟩ = some (.int .i64 a0_2) := (aD BK4.out 2).trans rfl
 have hygb4_2_23 := aC BK4.out 2
 have hzgb4_3_23 : wr.cell? ⟨gb4, 3, none⟩ = some (.bool a0_3) := (aD BK4.out 3).trans rfl
 have hygb4_3_23 := aC BK4.out 3
 go_wp2_with (first | ((with_reducible refine gate_store (t := 23) (p := 44) rfl ?_); refine store_event (t := 23) (p := 44) (v := ?vo_w24) (w1 := (wr.setCell ⟨gb4, 1, none⟩ (.slice none 0 0))) ?hg ?ho ?hn ?hr ?_; (case ho => rfl); (case hg => rfl); (case hn => rfl); (case hr => first | (go_simp; done) | (go_simp; rfl)); intro w24 hw_; have hkp : Kept wr w24 (fun k_ => k_ = gb4) := (by rw [hw_]; exact Kept.setCell (Kept.refl wr (fun k_ => k_ = gb4)) (.inl rfl) (.slice none 0 0)); have hge_ : w.heap.size ≤ gb4 := (by have o_ := HORD.out; (try unfold In at *); (try show _ ≠ _); omega); have hbn_ : Below w.heap.size w w24 := (by rw [hw_]; exact aE (HB.out) hge_); have hbk_ : w24.heap[gb4]? = some (.cells #[.slice A8 ((fallSecs l0_0 l0_1 a1 l0_1.length)).length c8, .slice none 0 0, .int .i64 a0_2, .bool a0_3] 25 (0, 0)) := (by rw [hw_]; exact bE (cs := #[.slice A8 ((fallSecs l0_0 l0_1 a1 l0_1.length)).length c8, .slice A3_1 l0_1.length c3_1, .int .i64 a0_2, .bool a0_3]) (cs' := #[.slice A8 ((fallSecs l0_0 l0_1 a1 l0_1.length)).length c8, .slice none 0 0, .int .i64 a0_2, .bool a0_3]) (BK4.out) 1 _ rfl); have hsz_ : hi8 ≤ w24.heap.size := Nat.le_trans HT.out hkp.1; have n0_ := aA.mk (Kd.bF HF0_0.out hkp (fun k_ h1_ h2_ => by have o_ := HORD.out; have t_ := HT.out; (try simp only [In2, Up, In, Ex, Exb] at h1_ h2_); omega)); have n1_ := aA.mk (Kd.bF HF0_1.out hkp (fun k_ h1_ h2_ => by have o_ := HORD.out; have t_ := HT.out; (try simp only [In2, Up, In, Ex, Exb] at h1_ h2_); omega)); have n2_ := aA.mk (Kd.bF HF3_1.out hkp (fun k_ h1_ h2_ => by have o_ := HORD.out; have t_ := HT.out; (try simp only [In2, Up, In, Ex, Exb] at h1_ h2_); omega)); have n3_ := aA.mk (Kd.S_kept HS3_1.out hkp (fun k_ h1_ h2_ => by have o_ := HORD.out; have t_ := HT.out; (try simp only [In2, Up, In, Ex, Exb] at h1_ h2_); omega)); have n4_ := aA.mk (Kd.bF HF8.out hkp (fun k_ h1_ h2_ => by have o_ := HORD.out; have t_ := HT.out; (try simp only [In2, Up, In, Ex, Exb] at h1_ h2_); omega)); have n5_ := aA.mk (Kd.S_kept HS8.out hkp (fun k_ h1_ h2_ => by have o_ := HORD.out; have t_ := HT.out; (try simp only [In2, Up, In, Ex, Exb] at h1_ h2_); omega)); have n6_ := aA.mk (bG BK1.out hkp (fun h2_ => by have o_ := HORD.out; have t_ := HT.out; (try simp only [In2, Up, In, Ex, Exb] at h2_); omega)); have n7_ := aA.mk (bG BK2.out hkp (fun h2_ => by have o_ := HORD.out; have t_ := HT.out; (try simp only [In2, Up, In, Ex, Exb] at h2_); omega)); have n8_ := aA.mk (hbn_); have n9_ := aA.mk (hbk_); have n10_ := aA.mk (hsz_); (try clear HF0_0); (try clear HF0_1); (try clear HF3_1); (try clear HS3_1); (try clear HF8); (try clear HS8); (try clear BK1); (try clear BK2); (try clear HB); (try clear BK4); (try clear HT); have HF0_0 := n0_; have HF0_1 := n1_; have HF3_1 := n2_; have HS3_1 := n3_; have HF8 := n4_; have HS8 := n5_; have BK1 := n6_; have BK2 := n7_; have HB := n8_; have BK4 := n9_; have HT := n10_; clear n0_ n1_ n2_ n3_ n4_ n5_ n6_ n7_ n8_ n9_ n10_; clear hw_ hkp hge_ hbn_ hbk_ hsz_; have hzgb1_0_24 : w24.cell? ⟨gb1, 0, none⟩ = some (.slice A0_0 l0_0.length c0_0) := (aD BK1.out 0).trans rfl; have hygb1_0_24 := aC BK1.out 0; have hzgb1_1_24 : w24.cell? ⟨gb1, 1, none⟩ = some (.slice A0_1 l0_1.length c0_1) := (aD BK1.out 1).trans rfl; have hygb1_1_24 := aC BK1.out 1; have hzgb1_2_24 : w24.cell? ⟨gb1, 2, none⟩ = some (.int .i64 a0_2) := (aD BK1.out 2).trans rfl; have hygb1_2_24 := aC BK1.out 2; have hzgb1_3_24 : w24.cell? ⟨gb1, 3, none⟩ = some (.bool a0_3) := (aD BK1.out 3).trans rfl; have hygb1_3_24 := aC BK1.out 3; have hzgb2_0_24 : w24.cell? ⟨gb2, 0, none⟩ = some (.slice none 0 0) := (aD BK2.out 0).trans rfl; have hygb2_0_24 := aC BK2.out 0; have hzgb2_1_24 : w24.cell? ⟨gb2, 1, none⟩ = some (.slice none 0 0) := (aD BK2.out 1).trans rfl; have hygb2_1_24 := aC BK2.out 1; have hzgb2_2_24 : w24.cell? ⟨gb2, 2, none⟩ = some (.int .i64 0) := (aD BK2.out 2).trans rfl; have hygb2_2_24 := aC BK2.out 2; have hzgb2_3_24 : w24.cell? ⟨gb2, 3, none⟩ = some (.bool false) := (aD BK2.out 3).trans rfl; have hygb2_3_24 := aC BK2.out 3; have hzgb4_0_24 : w24.cell? ⟨gb4, 0, none⟩ = some (.slice A8 ((fallSecs l0_0 l0_1 a1 l0_1.length)).length c8) := (aD BK4.out 0).trans rfl; have hygb4_0_24 := aC BK4.out 0; have hzgb4_1_24 : w24.cell? ⟨gb4, 1, none⟩ = some (.slice none 0 0) := (aD BK4.out 1).trans rfl; have hygb4_1_24 := aC BK4.out 1; have hzgb4_2_24 : w24.cell? ⟨gb4, 2, none⟩ = some (.int .i64 a0_2) := (aD BK4.out 2).trans rfl; have hygb4_2_24 := aC BK4.out 2; have hzgb4_3_24 : w24.cell? ⟨gb4, 3, none⟩ = some (.bool a0_3) := (aD BK4.out 3).trans rfl; have hygb4_3_24 := aC BK4.out 3) | ((with_reducible refine gate_store (t := 4) (p := 45) rfl ?_); refine store_event (t := 4) (p := 45) (v := ?vo_w25) (w1 := (w24.setCell ⟨gb4, 3, none⟩ (.bool false))) ?hg ?ho ?hn ?hr ?_; (case ho => rfl); (case hg => rfl); (case hn => rfl); (case hr => first | (go_simp; done) | (go_simp; rfl)); intro w25 hw_; have hkp : Kept w24 w25 (fun k_ => k_ = gb4) := (by rw [hw_]; exact Kept.setCell (Kept.refl w24 (fun k_ => k_ = gb4)) (.inl rfl) (.bool false)); have hge_ : w.heap.size ≤ gb4 := (by have o_ := HORD.out; (try unfold In at *); (try show _ ≠ _); omega); have hbn_ : Below w.heap.size w w25 := (by rw [hw_]; exact aE (HB.out) hge_); have hbk_ : w25.heap[gb4]? = some (.cells #[.slice A8 ((fallSecs l0_0 l0_1 a1 l0_1.length)).length c8, .slice none 0 0, .int .i64 a0_2, .bool false] 25 (0, 0)) := (by rw [hw_]; exact bE (cs := #[.slice A8 ((fallSecs l0_0 l0_1 a1 l0_1.length)).length c8, .slice none 0 0, .int .i64 a0_2, .bool a0_3]) (cs' := #[.slice A8 ((fallSecs l0_0 l0_1 a1 l0_1.length)).length c8, .slice none 0 0, .int .i64 a0_2, .bool false]) (BK4.out) 3 _ rfl); have hsz_ : hi8 ≤ w25.heap.size := Nat.le_trans HT.out hkp.1; have n0_ := aA.mk (Kd.bF HF0_0.out hkp (fun k_ h1_ h2_ => by have o_ := HORD.out; have t_ := HT.out; (try simp only [In2, Up, In, Ex, Exb] at h1_ h2_); omega)); have n1_ := aA.mk (Kd.bF HF0_1.out hkp (fun k_ h1_ h2_ => by have o_ := HORD.out; have t_ := HT.out; (try simp only [In2, Up, In, Ex, Exb] at h1_ h2_); omega)); have n2_ := aA.mk (Kd.bF HF3_1.out hkp (fun k_ h1_ h2_ => by have o_ := HORD.out; have t_ := HT.out; (try simp only [In2, Up, In, Ex, Exb] at h1_ h2_); omega)); have n3_ := aA.mk (Kd.S_kept HS3_1.out hkp (fun k_ h1_ h2_ => by have o_ := HORD.out; have t_ := HT.out; (try simp only [In2, Up, In, Ex, Exb] at h1_ h2_); omega)); have n4_ := aA.mk (Kd.bF HF8.out hkp (fun k_ h1_ h2_ => by have o_ := HORD.out; have t_ := HT.out; (try simp only [In2, Up, In, Ex, Exb] at h1_ h2_); omega)); have n5_ := aA.mk (Kd.S_kept HS8.out hkp (fun k_ h1_ h2_ => by have o_ := HORD.out; have t_ := HT.out; (try simp only [In2, Up, In, Ex, Exb] at h1_ h2_); omega)); have n6_ := aA.mk (bG BK1.out hkp (fun h2_ => by have o_ := HORD.out; have t_ := HT.out; (try simp only [In2, Up, In, Ex, Exb] at h2_); omega)); have n7_ := aA.mk (bG BK2.out hkp (fun h2_ => by have o_ := HORD.out; have t_ := HT.out; (try simp only [In2, Up, In, Ex, Exb] at h2_); omega)); have n8_ := aA.mk (hbn_); have n9_ := aA.mk (hbk_); have n10_ := aA.mk (hsz_); (try clear HF0_0); (try clear HF0_1); (try clear HF3_1); (try clear HS3_1); (try clear HF8); (try clear HS8); (try clear BK1); (try clear BK2); (try clear HB); (try clear BK4); (try clear HT); have HF0_0 := n0_; have HF0_1 := n1_; have HF3_1 := n2_; have HS3_1 := n3_; have HF8 := n4_; have HS8 := n5_; have BK1 := n6_; have BK2 := n7_; have HB := n8_; have BK4 := n9_; have HT := n10_; clear n0_ n1_ n2_ n3_ n4_ n5_ n6_ n7_ n8_ n9_ n10_; clear hw_ hkp hge_ hbn_ hbk_ hsz_; have hzgb1_0_25 : w25.cell? ⟨gb1, 0, none⟩ = some (.slice A0_0 l0_0.length c0_0) := (aD BK1.out 0).trans rfl; have hygb1_0_25 := aC BK1.out 0; have hzgb1_1_25 : w25.cell? ⟨gb1, 1, none⟩ = some (.slice A0_1 l0_1.length c0_1) := (aD BK1.out 1).trans rfl; have hygb1_1_25 := aC BK1.out 1; have hzgb1_2_25 : w25.cell? ⟨gb1, 2, none⟩ = some (.int .i64 a0_2) := (aD BK1.out 2).trans rfl; have hygb1_2_25 := aC BK1.out 2; have hzgb1_3_25 : w25.cell? ⟨gb1, 3, none⟩ = some (.bool a0_3) := (aD BK1.out 3).trans rfl; have hygb1_3_25 := aC BK1.out 3; have hzgb2_0_25 : w25.cell? ⟨gb2, 0, none⟩ = some (.slice none 0 0) := (aD BK2.out 0).trans rfl; have hygb2_0_25 := aC BK2.out 0; have hzgb2_1_25 : w25.cell? ⟨gb2, 1, none⟩ = some (.slice none 0 0) := (aD BK2.out 1).trans rfl; have hygb2_1_25 := aC BK2.out 1; have hzgb2_2_25 : w25.cell? ⟨gb2, 2, none⟩ = some (.int .i64 0) := (aD BK2.out 2).trans rfl; have hygb2_2_25 := aC BK2.out 2; have hzgb2_3_25 : w25.cell? ⟨gb2, 3, none⟩ = some (.bool false) := (aD BK2.out 3).trans rfl; have hygb2_3_25 := aC BK2.out 3; have hzgb4_0_25 : w25.cell? ⟨gb4, 0, none⟩ = some (.slice A8 ((fallSecs l0_0 l0_1 a1 l0_1.length)).length c8) := (aD BK4.out 0).trans rfl; have hygb4_0_25 := aC BK4.out 0; have hzgb4_1_25 : w25.cell? ⟨gb4, 1, none⟩ = some (.slice none 0 0) := (aD BK4.out 1).trans rfl; have hygb4_1_25 := aC BK4.out 1; have hzgb4_2_25 : w25.cell? ⟨gb4, 2, none⟩ = some (.int .i64 a0_2) := (aD BK4.out 2).trans rfl; have hygb4_2_25 := aC BK4.out 2; have hzgb4_3_25 : w25.cell? ⟨gb4, 3, none⟩ = some (.bool false) := (aD BK4.out 3).trans rfl; have hygb4_3_25 := aC BK4.out 3) | ((with_reducible refine gate_store (t := 3) (p := 46) rfl ?_); refine store_event (t := 3) (p := 46) (v := ?vo_w26) (w1 := (w25.setCell ⟨gb4, 2, none⟩ (.int .i64 ((-1))))) ?hg ?ho ?hn ?hr ?_; (case ho => rfl); (case hg => rfl); (case hn => rfl); (case hr => first | (go_simp; done) | (go_simp; rfl)); intro w26 hw_; have hkp : Kept w25 w26 (fun k_ => k_ = gb4) := (by rw [hw_]; exact Kept.setCell (Kept.refl w25 (fun k_ => k_ = gb4)) (.inl rfl) (.int .i64 ((-1)))); have hge_ : w.heap.size ≤ gb4 := (by have o_ := HORD.out; (try unfold In at *); (try show _ ≠ _); omega); have hbn_ : Below w.heap.size w w26 := (by rw [hw_]; exact aE (HB.out) hge_); have hbk_ : w26.heap[gb4]? = some (.cells #[.slice A8 ((fallSecs l0_0 l0_1 a1 l0_1.length)).length c8, .slice none 0 0, .int .i64 ((-1)), .bool false] 25 (0, 0)) := (by rw [hw_]; exact bE (cs := #[.slice A8 ((fallSecs l0_0 l0_1 a1 l0_1.length)).length c8, .slice none 0 0, .int .i64 a0_2, .bool false]) (cs' := #[.slice A8 ((fallSecs l0_0 l0_1 a1 l0_1.length)).length c8, .slice none 0 0, .int .i64 ((-1)), .bool false]) (BK4.out) 2 _ rfl); have hsz_ : hi8 ≤ w26.heap.size := Nat.le_trans HT.out hkp.1; have n0_ := aA.mk (Kd.bF HF0_0.out hkp (fun k_ h1_ h2_ => by have o_ := HORD.out; have t_ := HT.out; (try simp only [In2, Up, In, Ex, Exb] at h1_ h2_); omega)); have n1_ := aA.mk (Kd.bF HF0_1.out hkp (fun k_ h1_ h2_ => by have o_ := HORD.out; have t_ := HT.out; (try simp only [In2, Up, In, Ex, Exb] at h1_ h2_); omega)); have n2_ := aA.mk (Kd.bF HF3_1.out hkp (fun k_ h1_ h2_ => by have o_ := HORD.out; have t_ := HT.out; (try simp only [In2, Up, In, Ex, Exb] at h1_ h2_); omega)); have n3_ := aA.mk (Kd.S_kept HS3_1.out hkp (fun k_ h1_ h2_ => by have o_ := HORD.out; have t_ := HT.out; (try simp only [In2, Up, In, Ex, Exb] at h1_ h2_); omega)); have n4_ := aA.mk (Kd.bF HF8.out hkp (fun k_ h1_ h2_ => by have o_ := HORD.out; have t_ := HT.out; (try simp only [In2, Up, In, Ex, Exb] at h1_ h2_); omega)); have n5_ := aA.mk (Kd.S_kept HS8.out hkp (fun k_ h1_ h2_ => by have o_ := HORD.out; have t_ := HT.out; (try simp only [In2, Up, In, Ex, Exb] at h1_ h2_); omega)); have n6_ := aA.mk (bG BK1.out hkp (fun h2_ => by have o_ := HORD.out; have t_ := HT.out; (try simp only [In2, Up, In, Ex, Exb] at h2_); omega)); have n7_ := aA.mk (bG BK2.out hkp (fun h2_ => by have o_ := HORD.out; have t_ := HT.out; (try simp only [In2, Up, In, Ex, Exb] at h2_); omega)); have n8_ := aA.mk (hbn_); have n9_ := aA.mk (hbk_); have n10_ := aA.mk (hsz_); (try clear HF0_0); (try clear HF0_1); (try clear HF3_1); (try clear HS3_1); (try clear HF8); (try clear HS8); (try clear BK1); (try clear BK2); (try clear HB); (try clear BK4); (try clear HT); have HF0_0 := n0_; have HF0_1 := n1_; have HF3_1 := n2_; have HS3_1 := n3_; have HF8 := n4_; have HS8 := n5_; have BK1 := n6_; have BK2 := n7_; have HB := n8_; have BK4 := n9_; have HT := n10_; clear n0_ n1_ n2_ n3_ n4_ n5_ n6_ n7_ n8_ n9_ n10_; clear hw_ hkp hge_ hbn_ hbk_ hsz_; have hzgb1_0_26 : w26.cell? ⟨gb1, 0, none⟩ = some (.slice A0_0 l0_0.length c0_0) := (aD BK1.out 0).trans rfl; have hygb1_0_26 := aC BK1.out 0; have hzgb1_1_26 : w26.cell? ⟨gb1, 1, none⟩ = some (.slice A0_1 l0_1.length c0_1) := (aD BK1.out 1).trans rfl; have hygb1_1_26 := aC BK1.out 1; have hzgb1_2_26 : w26.cell? ⟨gb1, 2, none⟩ = some (.int .i64 a0_2) := (aD BK1.out 2).trans rfl; have hygb1_2_26 := aC BK1.out 2; have hzgb1_3_26 : w26.cell? ⟨gb1, 3, none⟩ = some (.bool a0_3) := (aD BK1.out 3).trans rfl; have hygb1_3_26 := aC BK1.out 3; have hzgb2_0_26 : w26.cell? ⟨gb2, 0, none⟩ = some (.slice none 0 0) := (aD BK2.out 0).trans rfl; have hygb2_0_26 := aC BK2.out 0; have hzgb2_1_26 : w26.cell? ⟨gb2, 1, none⟩ = some (.slice none 0 0) := (aD BK2.out 1).trans rfl; have hygb2_1_26 := aC BK2.out 1; have hzgb2_2_26 : w26.cell? ⟨gb2, 2, none⟩ = some (.int .i64 0) := (aD BK2.out 2).trans rfl; have hygb2_2_26 := aC BK2.out 2; have hzgb2_3_26 : w26.cell? ⟨gb2, 3, none⟩ = some (.bool false) := (aD BK2.out 3).trans rfl; have hygb2_3_26 := aC BK2.out 3; have hzgb4_0_26 : w26.cell? ⟨gb4, 0, none⟩ = some (.slice A8 ((fallSecs l0_0 l0_1 a1 l0_1.length)).length c8) := (aD BK4.out 0).trans rfl; have hygb4_0_26 := aC BK4.out 0; have hzgb4_1_26 : w26.cell? ⟨gb4, 1, none⟩ = some (.slice none 0 0) := (aD BK4.out 1).trans rfl; have hygb4_1_26 := aC BK4.out 1; have hzgb4_2_26 : w26.cell? ⟨gb4, 2, none⟩ = some (.int .i64 ((-1))) := (aD BK4.out 2).trans rfl; have hygb4_2_26 := aC BK4.out 2; have hzgb4_3_26 : w26.cell? ⟨gb4, 3, none⟩ = some (.bool false) := (aD BK4.out 3).trans rfl; have hygb4_3_26 := aC BK4.out 3) | ((with_reducible refine gate_store (t := 25) (p := 4) rfl ?_); refine store_event (t := 25) (p := 4) (v := ?vo_w27) (w1 := ((((w26.setCell ⟨gb2, 0, none⟩ (.slice A8 ((fallSecs l0_0 l0_1 a1 l0_1.length)).length c8)).setCell ⟨gb2, 1, none⟩ (.slice none 0 0)).setCell ⟨gb2, 2, none⟩ (.int .i64 ((-1)))).setCell ⟨gb2, 3, none⟩ (.bool false))) ?hg ?ho ?hn ?hr ?_; (case ho => rfl); (case hg => rfl); (case hn => rfl); (case hr => first | (go_simp; done) | (go_simp; rfl)); intro w27 hw_; have hkp : Kept w26 w27 (fun k_ => k_ = gb2) := (by rw [hw_]; exact Kept.setCell (Kept.setCell (Kept.setCell (Kept.setCell (Kept.refl w26 (fun k_ => k_ = gb2)) (.inl rfl) (.slice A8 ((fallSecs l0_0 l0_1 a1 l0_1.length)).length c8)) (.inl rfl) (.slice none 0 0)) (.inl rfl) (.int .i64 ((-1)))) (.inl rfl) (.bool false)); have hge_ : w.heap.size ≤ gb2 := (by have o_ := HORD.out; (try unfold In at *); (try show _ ≠ _); omega); have hbn_ : Below w.heap.size w w27 := (by rw [hw_]; exact aE (aE (aE (aE (HB.out) hge_) hge_) hge_) hge_); have hbk_ : w27.heap[gb2]? = some (.cells #[.slice A8 ((fallSecs l0_0 l0_1 a1 l0_1.length)).length c8, .slice none 0 0, .int .i64 ((-1)), .bool false] 25 (0, 0)) := (by rw [hw_]; exact bE (cs := #[.slice A8 ((fallSecs l0_0 l0_1 a1 l0_1.length)).length c8, .slice none 0 0, .int .i64 ((-1)), .bool false]) (cs' := #[.slice A8 ((fallSecs l0_0 l0_1 a1 l0_1.length)).length c8, .slice none 0 0, .int .i64 ((-1)), .bool false]) (bE (cs := #[.slice A8 ((fallSecs l0_0 l0_1 a1 l0_1.length)).length c8, .slice none 0 0, .int .i64 0, .bool false]) (cs' := #[.slice A8 ((fallSecs l0_0 l0_1 a1 l0_1.length)).length c8, .slice none 0 0, .int .i64 ((-1)), .bool false]) (bE (cs := #[.slice A8 ((fallSecs l0_0 l0_1 a1 l0_1.length)).length c8, .slice none 0 0, .int .i64 0, .bool false]) (cs' := #[.slice A8 ((fallSecs l0_0 l0_1 a1 l0_1.length)).length c8, .slice none 0 0, .int .i64 0, .bool false]) (bE (cs := #[.slice none 0 0, .slice none 0 0, .int .i64 0, .bool false]) (cs' := #[.slice A8 ((fallSecs l0_0 l0_1 a1 l0_1.length)).length c8, .slice none 0 0, .int .i64 0, .bool false]) (BK2.out) 0 _ rfl) 1 _ rfl) 2 _ rfl) 3 _ rfl); have hsz_ : hi8 ≤ w27.heap.size := Nat.le_trans HT.out hkp.1; have n0_ := aA.mk (Kd.bF HF0_0.out hkp (fun k_ h1_ h2_ => by have o_ := HORD.out; have t_ := HT.out; (try simp only [In2, Up, In, Ex, Exb] at h1_ h2_); omega)); have n1_ := aA.mk (Kd.bF HF0_1.out hkp (fun k_ h1_ h2_ => by have o_ := HORD.out; have t_ := HT.out; (try simp only [In2, Up, In, Ex, Exb] at h1_ h2_); omega)); have n2_ := aA.mk (Kd.bF HF3_1.out hkp (fun k_ h1_ h2_ => by have o_ := HORD.out; have t_ := HT.out; (try simp only [In2, Up, In, Ex, Exb] at h1_ h2_); omega)); have n3_ := aA.mk (Kd.S_kept HS3_1.out hkp (fun k_ h1_ h2_ => by have o_ := HORD.out; have t_ := HT.out; (try simp only [In2, Up, In, Ex, Exb] at h1_ h2_); omega)); have n4_ := aA.mk (Kd.bF HF8.out hkp (fun k_ h1_ h2_ => by have o_ := HORD.out; have t_ := HT.out; (try simp only [In2, Up, In, Ex, Exb] at h1_ h2_); omega)); have n5_ := aA.mk (Kd.S_kept HS8.out hkp (fun k_ h1_ h2_ => by have o_ := HORD.out; have t_ := HT.out; (try simp only [In2, Up, In, Ex, Exb] at h1_ h2_); omega)); have n6_ := aA.mk (bG BK1.out hkp (fun h2_ => by have o_ := HORD.out; have t_ := HT.out; (try simp only [In2, Up, In, Ex, Exb] at h2_); omega)); have n7_ := aA.mk (bG BK4.out hkp (fun h2_ => by have o_ := HORD.out; have t_ := HT.out; (try simp only [In2, Up, In, Ex, Exb] at h2_); omega)); have n8_ := aA.mk (hbn_); have n9_ := aA.mk (hbk_); have n10_ := aA.mk (hsz_); (try clear HF0_0); (try clear HF0_1); (try clear HF3_1); (try clear HS3_1); (try clear HF8); (try clear HS8); (try clear BK1); (try clear BK4); (try clear HB); (try clear BK2); (try clear HT); have HF0_0 := n0_; have HF0_1 := n1_; have HF3_1 := n2_; have HS3_1 := n3_; have HF8 := n4_; have HS8 := n5_; have BK1 := n6_; have BK4 := n7_; have HB := n8_; have BK2 := n9_; have HT := n10_; clear n0_ n1_ n2_ n3_ n4_ n5_ n6_ n7_ n8_ n9_ n10_; clear hw_ hkp hge_ hbn_ hbk_ hsz_; have hzgb1_0_27 : w27.cell? ⟨gb1, 0, none⟩ = some (.slice A0_0 l0_0.length c0_0) := (aD BK1.out 0).trans rfl; have hygb1_0_27 := aC BK1.out 0; have hzgb1_1_27 : w27.cell? ⟨gb1, 1, none⟩ = some (.slice A0_1 l0_1.length c0_1) := (aD BK1.out 1).trans rfl; have hygb1_1_27 := aC BK1.out 1; have hzgb1_2_27 : w27.cell? ⟨gb1, 2, none⟩ = some (.int .i64 a0_2) := (aD BK1.out 2).trans rfl; have hygb1_2_27 := aC BK1.out 2; have hzgb1_3_27 : w27.cell? ⟨gb1, 3, none⟩ = some (.bool a0_3) := (aD BK1.out 3).trans rfl; have hygb1_3_27 := aC BK1.out 3; have hzgb2_0_27 : w27.cell? ⟨gb2, 0, none⟩ = some (.slice A8 ((fallSecs l0_0 l0_1 a1 l0_1.length)).length c8) := (aD BK2.out 0).trans rfl; have hygb2_0_27 := aC BK2.out 0; have hzgb2_1_27 : w27.cell? ⟨gb2, 1, none⟩ = some (.slice none 0 0) := (aD BK2.out 1).trans rfl; have hygb2_1_27 := aC BK2.out 1; have hzgb2_2_27 : w27.cell? ⟨gb2, 2, none⟩ = some (.int .i64 ((-1))) := (aD BK2.out 2).trans rfl; have hygb2_2_27 := aC BK2.out 2; have hzgb2_3_27 : w27.cell? ⟨gb2, 3, none⟩ = some (.bool false) := (aD BK2.out 3).trans rfl; have hygb2_3_27 := aC BK2.out 3; have hzgb4_0_27 : w27.cell? ⟨gb4, 0, none⟩ = some (.slice A8 ((fallSecs l0_0 l0_1 a1 l0_1.length)).length c8) := (aD BK4.out 0).trans rfl; have hygb4_0_27 := aC BK4.out 0; have hzgb4_1_27 : w27.cell? ⟨gb4, 1, none⟩ = some (.slice none 0 0) := (aD BK4.out 1).trans rfl; have hygb4_1_27 := aC BK4.out 1; have hzgb4_2_27 : w27.cell? ⟨gb4, 2, none⟩ = some (.int .i64 ((-1))) := (aD BK4.out 2).trans rfl; have hygb4_2_27 := aC BK4.out 2; have hzgb4_3_27 : w27.cell? ⟨gb4, 3, none⟩ = some (.bool false) := (aD BK4.out 3).trans rfl; have hygb4_3_27 := aC BK4.out 3))
 refine bodyPost_ret (fn := Try.f32) (P := Try.prog) (results_cell_row rfl _ _ gb2 25 #[.slice A8 ((fallSecs l0_0 l0_1 a1 l0_1.length)).length c8, .slice none 0 0, .int .i64 ((-1)), .bool false] (0, 0) _ rfl BK2.out Try.underlying25 rfl (by kernel_rfl)) rfl ?_
 first | exact ⟨_, _, w27.heap.size, rfl, HB.out.size, Nat.le_refl _, Kd.S_mono (Kd.S_lower HS8.out (by have o_ := HORD.out; have t_ := HT.out; omega)) (fun k_ hk_ => by have o_ := HORD.out; have t_ := HT.out; (try simp only [In2, Up, In] at hk_ ⊢); omega), Kd.S_nil _ _ _ _ _, HB.out⟩ | exact ⟨_, _, rfl, w27.heap.size, HB.out.size, Nat.le_refl _, Kd.S_mono (Kd.S_lower HS8.out (by have o_ := HORD.out; have t_ := HT.out; omega)) (fun k_ hk_ => by have o_ := HORD.out; have t_ := HT.out; (try simp only [In2, Up, In] at hk_ ⊢); omega), Kd.S_nil _ _ _ _ _, HB.out⟩
set_option maxHeartbeats 8000000 in
set_option maxRecDepth 100000 in
theorem walk_FallDev3 (A0_0 : Option Addr) (c0_0 : Nat) (l0_0 : List (List (Int))) (A0_1 : Option Addr) (c0_1 : Nat) (l0_1 : List (S50)) (a0_2 : Int) (a0_3 : Bool) (a1 : Int) (w : World) (hf0_0 : Kd.F (Kd.slice 5 (Kd.int .u8)) w (In 0 w.heap.size) A0_0 l0_0.length l0_0) (hc0_0 : l0_0.length ≤ c0_0) (hf0_1 : Kd.F k50 w (In 0 w.heap.size) A0_1 l0_1.length l0_1) (hc0_1 : l0_1.length ≤ c0_1) (hok0 : okByteSS l0_0) (hok1 : okWrS l0_1) (hdo : devOkB l0_0 l0_1 a0_2 = true) (hwi : decide (0 ≤ a1 ∧ a1 ≤ 1073741823) = false) :
  Calls Try.prog 32 #[.agg #[.slice A0_0 l0_0.length c0_0, .slice A0_1 l0_1.length c0_1, .int .i64 a0_2, .bool a0_3], .int .i64 a1] w fun e w' => ∃ v0_ v1_ : Value, ∃ m_ : Nat, e = .returned (.agg #[v0_, v1_, .int .i64 (-1), .bool false]) ∧ w.heap.size ≤ m_ ∧ m_ ≤ w'.heap.size ∧ Kd.S (Kd.slice 5 (Kd.int .u8)) 37 w' w.heap.size (In w.heap.size m_) v0_ (fallSecs l0_0 l0_1 0 l0_1.length) ∧ Kd.S k50 50 w' w.heap.size (In m_ w'.heap.size) v1_ ([] : List (S50)) ∧ Below w.heap.size w w' := by
 have hu25 := Try.underlying25
 have hu50 := Try.underlying50
 have HF0_0 := aA.mk hf0_0
 have HC0_0 := aA.mk hc0_0
 clear hf0_0 hc0_0
 have HF0_1 := aA.mk hf0_1
 have HC0_1 := aA.mk hc0_1
 clear hf0_1 hc0_1
 have HB := aA.mk (Below.refl w.heap.size w)
 have HORD := aA.mk (Nat.le_refl w.heap.size)
 have HT := aA.mk (Nat.le_refl w.heap.size)
 have JC := aA.mk (copyDevS_f hok0 hok1 a0_2 a0_3)
 obtain ⟨kd, hd0_⟩ := evGet (impl_DevOk_ev l0_0 l0_1 a0_2 a0_3 hok0 hok1)
 rw [hdo] at hd0_
 have JD := aA.mk hd0_
 clear hd0_
 have JW := aA.mk (show impl_within.f a1 0 1073741823 = some false from by rw [impl_within_f, hwi])
 go_enter Try.func32, Try.ntmps32
 go_wp2_with (first | ((with_reducible refine gate_dst (N := 2) rfl ?_); refine box_event ?hg (N := 2) ?hd (cs := #[.slice A0_0 l0_0.length c0_0, .slice A0_1 l0_1.length c0_1, .int .i64 a0_2, .bool a0_3]) (t := 25) ?hr ?_; (case hd => rfl); (case hg => rfl); (case hr => first | (go_simp; done) | (go_simp; rfl)); intro gb1 hg_ w1 hbox hb; have hge_ : w.heap.size ≤ gb1 := (by rw [hg_]; exact HT.out); have hlt_ : gb1 + 1 ≤ w1.heap.size := blk_lt hbox; have n0_ := aA.mk (Kd.aZ HF0_0.out hb); have n1_ := aA.mk (Kd.aZ HF0_1.out hb); have n2_ := aA.mk (bD HB.out hb); have n3_ := aA.mk (hbox); have n4_ := aA.mk (And.intro HORD.out (And.intro hge_ (Nat.le_succ gb1))); have n5_ := aA.mk (hlt_); (try clear HF0_0); (try clear HF0_1); (try clear HB); (try clear BK1); (try clear HORD); (try clear HT); have HF0_0 := n0_; have HF0_1 := n1_; have HB := n2_; have BK1 := n3_; have HORD := n4_; have HT := n5_; clear n0_ n1_ n2_ n3_ n4_ n5_; clear hb hbox hg_ hge_ hlt_; have hzgb1_0_1 : w1.cell? ⟨gb1, 0, none⟩ = some (.slice A0_0 l0_0.length c0_0) := (aD BK1.out 0).trans rfl; have hygb1_0_1 := aC BK1.out 0; have hzgb1_1_1 : w1.cell? ⟨gb1, 1, none⟩ = some (.slice A0_1 l0_1.length c0_1) := (aD BK1.out 1).trans rfl; have hygb1_1_1 := aC BK1.out 1; have hzgb1_2_1 : w1.cell? ⟨gb1, 2, none⟩ = some (.int .i64 a0_2) := (aD BK1.out 2).trans rfl; have hygb1_2_1 := aC BK1.out 2; have hzgb1_3_1 : w1.cell? ⟨gb1, 3, none⟩ = some (.bool a0_3) := (aD BK1.out 3).trans rfl; have hygb1_3_1 := aC BK1.out 3) | ((with_reducible refine gate_dst (N := 4) rfl ?_); refine box_event ?hg (N := 4) ?hd (cs := #[.slice none 0 0, .slice none 0 0, .int .i64 0, .bool false]) (t := 25) ?hr ?_; (case hd => rfl); (case hg => rfl); (case hr => first | (go_simp; done) | (go_simp; rfl)); intro gb2 hg_ w2 hbox hb; have hge_ : (gb1 + 1) ≤ gb2 := (by rw [hg_]; exact HT.out); have hlt_ : gb2 + 1 ≤ w2.heap.size := blk_lt hbox; have n0_ := aA.mk (Kd.aZ HF0_0.out hb); have n1_ := aA.mk (Kd.aZ HF0_1.out hb); have n2_ := aA.mk (aW BK1.out hb); have n3_ := aA.mk (bD HB.out hb); have n4_ := aA.mk (hbox); have n5_ := aA.mk (And.intro HORD.out (And.intro hge_ (Nat.le_succ gb2))); have n6_ := aA.mk (hlt_); (try clear HF0_0); (try clear HF0_1); (try clear BK1); (try clear HB); (try clear BK2); (try clear HORD); (try clear HT); have HF0_0 := n0_; have HF0_1 := n1_; have BK1 := n2_; have HB := n3_; have BK2 := n4_; have HORD := n5_; have HT := n6_; clear n0_ n1_ n2_ n3_ n4_ n5_ n6_; clear hb hbox hg_ hge_ hlt_; have hzgb1_0_2 : w2.cell? ⟨gb1, 0, none⟩ = some (.slice A0_0 l0_0.length c0_0) := (aD BK1.out 0).trans rfl; have hygb1_0_2 := aC BK1.out 0; have hzgb1_1_2 : w2.cell? ⟨gb1, 1, none⟩ = some (.slice A0_1 l0_1.length c0_1) := (aD BK1.out 1).trans rfl; have hygb1_1_2 := aC BK1.out 1; have hzgb1_2_2 : w2.cell? ⟨gb1, 2, none⟩ = some (.int .i64 a0_2) := (aD BK1.out 2).trans rfl; have hygb1_2_2 := aC BK1.out 2; have hzgb1_3_2 : w2.cell? ⟨gb1, 3, none⟩ = some (.bool a0_3) := (aD BK1.out 3).trans rfl; have hygb1_3_2 := aC BK1.out 3; have hzgb2_0_2 : w2.cell? ⟨gb2, 0, none⟩ = some (.slice none 0 0) := (aD BK2.out 0).trans rfl; have hygb2_0_2 := aC BK2.out 0; have hzgb2_1_2 : w2.cell? ⟨gb2, 1, none⟩ = some (.slice none 0 0) := (aD BK2.out 1).trans rfl; have hygb2_1_2 := aC BK2.out 1; have hzgb2_2_2 : w2.cell? ⟨gb2, 2, none⟩ = some (.int .i64 0) := (aD BK2.out 2).trans rfl; have hygb2_2_2 := aC BK2.out 2; have hzgb2_3_2 : w2.cell? ⟨gb2, 3, none⟩ = some (.bool false) := (aD BK2.out 3).trans rfl; have hygb2_3_2 := aC BK2.out 3) | ((with_reducible refine bJ (f := 58) rfl ?_); refine goesL_ (some 9) rfl rfl Try.func58 (by kernel_rfl) rfl #[.agg #[.slice A0_0 l0_0.length c0_0, .slice A0_1 l0_1.length c0_1, .int .i64 a0_2, .bool a0_3]] rfl (by (try simp only [List.map_toArray, List.map_cons, List.map_nil]); first | done | rfl | (simp only [List.length_drop, List.length_take]; rfl)) ?_; (with_reducible refine (impl_copyDevS.calls (In 0 w.heap.size) _ _ l0_0 (In 0 w.heap.size) _ _ l0_1 a0_2 a0_3 l0_0 l0_1 a0_2 a0_3 _ ?s1 ?s2 JC.out).mono ?_); (case s1 => exact ⟨_, _, rfl, HC0_0.out, HF0_0.out⟩); (case s2 => exact ⟨_, _, rfl, HC0_1.out, HF0_1.out⟩); rintro e_ w3 ⟨v0_, v1_, mm3, rfl, hm1_, hm2_, ho0, ho1, hb⟩; refine ⟨_, rfl, ?_⟩; obtain ⟨lo3, hi3, el_, eh_, ol_, oh_⟩ := Mem.times HT.out hb; rw [← el_] at hm1_; rw [← eh_] at hm2_; rw [← el_] at ho0; obtain ⟨A3_0, c3_0, ev_, hc0_, hf0_, hs0_⟩ := new_SI2 ho0; subst ev_; rw [← eh_] at ho1; (try rw [← el_] at ho1); obtain ⟨A3_1, c3_1, ev_, hc1_, hf1_, hs1_⟩ := new_SI2 ho1; subst ev_; have n0_ := aA.mk (Kd.aZ HF0_0.out hb); have n1_ := aA.mk (Kd.aZ HF0_1.out hb); have n2_ := aA.mk (aW BK1.out hb); have n3_ := aA.mk (aW BK2.out hb); have n4_ := aA.mk (bD HB.out hb); have n5_ := aA.mk (hf0_); have n6_ := aA.mk (hc0_); have n7_ := aA.mk (hs0_); have n8_ := aA.mk (hf1_); have n9_ := aA.mk (hc1_); have n10_ := aA.mk (hs1_); have n11_ := aA.mk (And.intro HORD.out (And.intro ol_ (And.intro hm1_ hm2_))); have n12_ := aA.mk (Nat.le_of_eq eh_); (try clear HF0_0); (try clear HF0_1); (try clear BK1); (try clear BK2); (try clear HB); (try clear HF3_0); (try clear HC3_0); (try clear HS3_0); (try clear HF3_1); (try clear HC3_1); (try clear HS3_1); (try clear HORD); (try clear HT); have HF0_0 := n0_; have HF0_1 := n1_; have BK1 := n2_; have BK2 := n3_; have HB := n4_; have HF3_0 := n5_; have HC3_0 := n6_; have HS3_0 := n7_; have HF3_1 := n8_; have HC3_1 := n9_; have HS3_1 := n10_; have HORD := n11_; have HT := n12_; clear n0_ n1_ n2_ n3_ n4_ n5_ n6_ n7_ n8_ n9_ n10_ n11_ n12_; clear hm1_ hm2_; clear ol_ oh_ el_ eh_ ho0 hf0_ hc0_ hs0_ ho1 hf1_ hc1_ hs1_; (try clear hb); have hzgb1_0_3 : w3.cell? ⟨gb1, 0, none⟩ = some (.slice A0_0 l0_0.length c0_0) := (aD BK1.out 0).trans rfl; have hygb1_0_3 := aC BK1.out 0; have hzgb1_1_3 : w3.cell? ⟨gb1, 1, none⟩ = some (.slice A0_1 l0_1.length c0_1) := (aD BK1.out 1).trans rfl; have hygb1_1_3 := aC BK1.out 1; have hzgb1_2_3 : w3.cell? ⟨gb1, 2, none⟩ = some (.int .i64 a0_2) := (aD BK1.out 2).trans rfl; have hygb1_2_3 := aC BK1.out 2; have hzgb1_3_3 : w3.cell? ⟨gb1, 3, none⟩ = some (.bool a0_3) := (aD BK1.out 3).trans rfl; have hygb1_3_3 := aC BK1.out 3; have hzgb2_0_3 : w3.cell? ⟨gb2, 0, none⟩ = some (.slice none 0 0) := (aD BK2.out 0).trans rfl; have hygb2_0_3 := aC BK2.out 0; have hzgb2_1_3 : w3.cell? ⟨gb2, 1, none⟩ = some (.slice none 0 0) := (aD BK2.out 1).trans rfl; have hygb2_1_3 := aC BK2.out 1; have hzgb2_2_3 : w3.cell? ⟨gb2, 2, none⟩ = some (.int .i64 0) := (aD BK2.out 2).trans rfl; have hygb2_2_3 := aC BK2.out 2; have hzgb2_3_3 : w3.cell? ⟨gb2, 3, none⟩ = some (.bool false) := (aD BK2.out 3).trans rfl; have hygb2_3_3 := aC BK2.out 3) | ((with_reducible refine gate_dst (N := 5) rfl ?_); refine box_event ?hg (N := 5) ?hd (cs := #[.slice none 0 0, .slice none 0 0, .int .i64 0, .bool false]) (t := 25) ?hr ?_; (case hd => rfl); (case hg => rfl); (case hr => first | (go_simp; done) | (go_simp; rfl)); intro gb4 hg_ w4 hbox hb; have hge_ : hi3 ≤ gb4 := (by rw [hg_]; exact HT.out); have hlt_ : gb4 + 1 ≤ w4.heap.size := blk_lt hbox; have n0_ := aA.mk (Kd.aZ HF0_0.out hb); have n1_ := aA.mk (Kd.aZ HF0_1.out hb); have n2_ := aA.mk (Kd.aZ HF3_0.out hb); have n3_ := aA.mk (Kd.S_below HS3_0.out hb); have n4_ := aA.mk (Kd.aZ HF3_1.out hb); have n5_ := aA.mk (Kd.S_below HS3_1.out hb); have n6_ := aA.mk (aW BK1.out hb); have n7_ := aA.mk (aW BK2.out hb); have n8_ := aA.mk (bD HB.out hb); have n9_ := aA.mk (hbox); have n10_ := aA.mk (And.intro HORD.out (And.intro hge_ (Nat.le_succ gb4))); have n11_ := aA.mk (hlt_); (try clear HF0_0); (try clear HF0_1); (try clear HF3_0); (try clear HS3_0); (try clear HF3_1); (try clear HS3_1); (try clear BK1); (try clear BK2); (try clear HB); (try clear BK4); (try clear HORD); (try clear HT); have HF0_0 := n0_; have HF0_1 := n1_; have HF3_0 := n2_; have HS3_0 := n3_; have HF3_1 := n4_; have HS3_1 := n5_; have BK1 := n6_; have BK2 := n7_; have HB := n8_; have BK4 := n9_; have HORD := n10_; have HT := n11_; clear n0_ n1_ n2_ n3_ n4_ n5_ n6_ n7_ n8_ n9_ n10_ n11_; clear hb hbox hg_ hge_ hlt_; have hzgb1_0_4 : w4.cell? ⟨gb1, 0, none⟩ = some (.slice A0_0 l0_0.length c0_0) := (aD BK1.out 0).trans rfl; have hygb1_0_4 := aC BK1.out 0; have hzgb1_1_4 : w4.cell? ⟨gb1, 1, none⟩ = some (.slice A0_1 l0_1.length c0_1) := (aD BK1.out 1).trans rfl; have hygb1_1_4 := aC BK1.out 1; have hzgb1_2_4 : w4.cell? ⟨gb1, 2, none⟩ = some (.int .i64 a0_2) := (aD BK1.out 2).trans rfl; have hygb1_2_4 := aC BK1.out 2; have hzgb1_3_4 : w4.cell? ⟨gb1, 3, none⟩ = some (.bool a0_3) := (aD BK1.out 3).trans rfl; have hygb1_3_4 := aC BK1.out 3; have hzgb2_0_4 : w4.cell? ⟨gb2, 0, none⟩ = some (.slice none 0 0) := (aD BK2.out 0).trans rfl; have hygb2_0_4 := aC BK2.out 0; have hzgb2_1_4 : w4.cell? ⟨gb2, 1, none⟩ = some (.slice none 0 0) := (aD BK2.out 1).trans rfl; have hygb2_1_4 := aC BK2.out 1; have hzgb2_2_4 : w4.cell? ⟨gb2, 2, none⟩ = some (.int .i64 0) := (aD BK2.out 2).trans rfl; have hygb2_2_4 := aC BK2.out 2; have hzgb2_3_4 : w4.cell? ⟨gb2, 3, none⟩ = some (.bool false) := (aD BK2.out 3).trans rfl; have hygb2_3_4 := aC BK2.out 3; have hzgb4_0_4 : w4.cell? ⟨gb4, 0, none⟩ = some (.slice none 0 0) := (aD BK4.out 0).trans rfl; have hygb4_0_4 := aC BK4.out 0; have hzgb4_1_4 : w4.cell? ⟨gb4, 1, none⟩ = some (.slice none 0 0) := (aD BK4.out 1).trans rfl; have hygb4_1_4 := aC BK4.out 1; have hzgb4_2_4 : w4.cell? ⟨gb4, 2, none⟩ = some (.int .i64 0) := (aD BK4.out 2).trans rfl; have hygb4_2_4 := aC BK4.out 2; have hzgb4_3_4 : w4.cell? ⟨gb4, 3, none⟩ = some (.bool false) := (aD BK4.out 3).trans rfl; have hygb4_3_4 := aC BK4.out 3) | ((with_reducible refine gate_store (t := 25) (p := 5) rfl ?_); refine store_event (t := 25) (p := 5) (v := ?vo_w5) (w1 := ((((w4.setCell ⟨gb4, 0, none⟩ (.slice A3_0 l0_0.length c3_0)).setCell ⟨gb4, 1, none⟩ (.slice A3_1 l0_1.length c3_1)).setCell ⟨gb4, 2, none⟩ (.int .i64 a0_2)).setCell ⟨gb4, 3, none⟩ (.bool a0_3))) ?hg ?ho ?hn ?hr ?_; (case ho => rfl); (case hg => rfl); (case hn => rfl); (case hr => first | (go_simp; done) | (go_simp; rfl)); intro w5 hw_; have hkp : Kept w4 w5 (fun k_ => k_ = gb4) := (by rw [hw_]; exact Kept.setCell (Kept.setCell (Kept.setCell (Kept.setCell (Kept.refl w4 (fun k_ => k_ = gb4)) (.inl rfl) (.slice A3_0 l0_0.length c3_0)) (.inl rfl) (.slice A3_1 l0_1.length c3_1)) (.inl rfl) (.int .i64 a0_2)) (.inl rfl) (.bool a0_3)); have hge_ : w.heap.size ≤ gb4 := (by have o_ := HORD.out; (try unfold In at *); (try show _ ≠ _); omega); have hbn_ : Below w.heap.size w w5 := (by rw [hw_]; exact aE (aE (aE (aE (HB.out) hge_) hge_) hge_) hge_); have hbk_ : w5.heap[gb4]? = some (.cells #[.slice A3_0 l0_0.length c3_0, .slice A3_1 l0_1.length c3_1, .int .i64 a0_2, .bool a0_3] 25 (0, 0)) := (by rw [hw_]; exact bE (cs := #[.slice A3_0 l0_0.length c3_0, .slice A3_1 l0_1.length c3_1, .int .i64 a0_2, .bool false]) (cs' := #[.slice A3_0 l0_0.length c3_0, .slice A3_1 l0_1.length c3_1, .int .i64 a0_2, .bool a0_3]) (bE (cs := #[.slice A3_0 l0_0.length c3_0, .slice A3_1 l0_1.length c3_1, .int .i64 0, .bool false]) (cs' := #[.slice A3_0 l0_0.length c3_0, .slice A3_1 l0_1.length c3_1, .int .i64 a0_2, .bool false]) (bE (cs := #[.slice A3_0 l0_0.length c3_0, .slice none 0 0, .int .i64 0, .bool false]) (cs' := #[.slice A3_0 l0_0.length c3_0, .slice A3_1 l0_1.length c3_1, .int .i64 0, .bool false]) (bE (cs := #[.slice none 0 0, .slice none 0 0, .int .i64 0, .bool false]) (cs' := #[.slice A3_0 l0_0.length c3_0, .slice none 0 0, .int .i64 0, .bool false]) (BK4.out) 0 _ rfl) 1 _ rfl) 2 _ rfl) 3 _ rfl); have hsz_ : (gb4 + 1) ≤ w5.heap.size := Nat.le_trans HT.out hkp.1; have n0_ := aA.mk (Kd.bF HF0_0.out hkp (fun k_ h1_ h2_ => by have o_ := HORD.out; have t_ := HT.out; (try simp only [In2, Up, In, Ex, Exb] at h1_ h2_); omega)); have n1_ := aA.mk (Kd.bF HF0_1.out hkp (fun k_ h1_ h2_ => by have o_ := HORD.out; have t_ := HT.out; (try simp only [In2, Up, In, Ex, Exb] at h1_ h2_); omega)); have n2_ := aA.mk (Kd.bF HF3_0.out hkp (fun k_ h1_ h2_ => by have o_ := HORD.out; have t_ := HT.out; (try simp only [In2, Up, In, Ex, Exb] at h1_ h2_); omega)); have n3_ := aA.mk (Kd.S_kept HS3_0.out hkp (fun k_ h1_ h2_ => by have o_ := HORD.out; have t_ := HT.out; (try simp only [In2, Up, In, Ex, Exb] at h1_ h2_); omega)); have n4_ := aA.mk (Kd.bF HF3_1.out hkp (fun k_ h1_ h2_ => by have o_ := HORD.out; have t_ := HT.out; (try simp only [In2, Up, In, Ex, Exb] at h1_ h2_); omega)); have n5_ := aA.mk (Kd.S_kept HS3_1.out hkp (fun k_ h1_ h2_ => by have o_ := HORD.out; have t_ := HT.out; (try simp only [In2, Up, In, Ex, Exb] at h1_ h2_); omega)); have n6_ := aA.mk (bG BK1.out hkp (fun h2_ => by have o_ := HORD.out; have t_ := HT.out; (try simp only [In2, Up, In, Ex, Exb] at h2_); omega)); have n7_ := aA.mk (bG BK2.out hkp (fun h2_ => by have o_ := HORD.out; have t_ := HT.out; (try simp only [In2, Up, In, Ex, Exb] at h2_); omega)); have n8_ := aA.mk (hbn_); have n9_ := aA.mk (hbk_); have n10_ := aA.mk (hsz_); (try clear HF0_0); (try clear HF0_1); (try clear HF3_0); (try clear HS3_0); (try clear HF3_1); (try clear HS3_1); (try clear BK1); (try clear BK2); (try clear HB); (try clear BK4); (try clear HT); have HF0_0 := n0_; have HF0_1 := n1_; have HF3_0 := n2_; have HS3_0 := n3_; have HF3_1 := n4_; have HS3_1 := n5_; have BK1 := n6_; have BK2 := n7_; have HB := n8_; have BK4 := n9_; have HT := n10_; clear n0_ n1_ n2_ n3_ n4_ n5_ n6_ n7_ n8_ n9_ n10_; clear hw_ hkp hge_ hbn_ hbk_ hsz_; have hzgb1_0_5 : w5.cell? ⟨gb1, 0, none⟩ = some (.slice A0_0 l0_0.length c0_0) := (aD BK1.out 0).trans rfl; have hygb1_0_5 := aC BK1.out 0; have hzgb1_1_5 : w5.cell? ⟨gb1, 1, none⟩ = some (.slice A0_1 l0_1.length c0_1) := (aD BK1.out 1).trans rfl; have hygb1_1_5 := aC BK1.out 1; have hzgb1_2_5 : w5.cell? ⟨gb1, 2, none⟩ = some (.int .i64 a0_2) := (aD BK1.out 2).trans rfl; have hygb1_2_5 := aC BK1.out 2; have hzgb1_3_5 : w5.cell? ⟨gb1, 3, none⟩ = some (.bool a0_3) := (aD BK1.out 3).trans rfl; have hygb1_3_5 := aC BK1.out 3; have hzgb2_0_5 : w5.cell? ⟨gb2, 0, none⟩ = some (.slice none 0 0) := (aD BK2.out 0).trans rfl; have hygb2_0_5 := aC BK2.out 0; have hzgb2_1_5 : w5.cell? ⟨gb2, 1, none⟩ = some (.slice none 0 0) := (aD BK2.out 1).trans rfl; have hygb2_1_5 := aC BK2.out 1; have hzgb2_2_5 : w5.cell? ⟨gb2, 2, none⟩ = some (.int .i64 0) := (aD BK2.out 2).trans rfl; have hygb2_2_5 := aC BK2.out 2; have hzgb2_3_5 : w5.cell? ⟨gb2, 3, none⟩ = some (.bool false) := (aD BK2.out 3).trans rfl; have hygb2_3_5 := aC BK2.out 3; have hzgb4_0_5 : w5.cell? ⟨gb4, 0, none⟩ = some (.slice A3_0 l0_0.length c3_0) := (aD BK4.out 0).trans rfl; have hygb4_0_5 := aC BK4.out 0; have hzgb4_1_5 : w5.cell? ⟨gb4, 1, none⟩ = some (.slice A3_1 l0_1.length c3_1) := (aD BK4.out 1).trans rfl; have hygb4_1_5 := aC BK4.out 1; have hzgb4_2_5 : w5.cell? ⟨gb4, 2, none⟩ = some (.int .i64 a0_2) := (aD BK4.out 2).trans rfl; have hygb4_2_5 := aC BK4.out 2; have hzgb4_3_5 : w5.cell? ⟨gb4, 3, none⟩ = some (.bool a0_3) := (aD BK4.out 3).trans rfl; have hygb4_3_5 := aC BK4.out 3) | ((with_reducible refine bJ (f := 20) rfl ?_); refine goesL_ (some 11) rfl rfl Try.func20 (by kernel_rfl) rfl #[.agg #[.slice A0_0 l0_0.length c0_0, .slice A0_1 l0_1.length c0_1, .int .i64 a0_2, .bool a0_3]] rfl (by (try simp only [List.map_toArray, List.map_cons, List.map_nil]); first | done | rfl | (simp only [List.length_drop, List.length_take]; rfl)) ?_; (with_reducible refine (impl_DevOk.calls kd _ _ l0_0 _ _ l0_1 a0_2 a0_3 true _ ?s1 ?s2 ?s3 ?s4 JD.out).mono ?_); (case s1 => exact (Kd.F_now HF0_0.out)); (case s2 => exact HC0_0.out); (case s3 => exact (Kd.F_now HF0_1.out)); (case s4 => exact HC0_1.out); rintro e_ w6 ⟨rfl, hb⟩; refine ⟨_, rfl, ?_⟩; have n0_ := aA.mk (Kd.aZ HF0_0.out hb); have n1_ := aA.mk (Kd.aZ HF0_1.out hb); have n2_ := aA.mk (Kd.aZ HF3_0.out hb); have n3_ := aA.mk (Kd.S_below HS3_0.out hb); have n4_ := aA.mk (Kd.aZ HF3_1.out hb); have n5_ := aA.mk (Kd.S_below HS3_1.out hb); have n6_ := aA.mk (aW BK1.out hb); have n7_ := aA.mk (aW BK2.out hb); have n8_ := aA.mk (aW BK4.out hb); have n9_ := aA.mk (bD HB.out hb); have n10_ := aA.mk (Nat.le_trans HT.out hb.size); (try clear HF0_0); (try clear HF0_1); (try clear HF3_0); (try clear HS3_0); (try clear HF3_1); (try clear HS3_1); (try clear BK1); (try clear BK2); (try clear BK4); (try clear HB); (try clear HT); have HF0_0 := n0_; have HF0_1 := n1_; have HF3_0 := n2_; have HS3_0 := n3_; have HF3_1 := n4_; have HS3_1 := n5_; have BK1 := n6_; have BK2 := n7_; have BK4 := n8_; have HB := n9_; have HT := n10_; clear n0_ n1_ n2_ n3_ n4_ n5_ n6_ n7_ n8_ n9_ n10_; (try clear hb); have hzgb1_0_6 : w6.cell? ⟨gb1, 0, none⟩ = some (.slice A0_0 l0_0.length c0_0) := (aD BK1.out 0).trans rfl; have hygb1_0_6 := aC BK1.out 0; have hzgb1_1_6 : w6.cell? ⟨gb1, 1, none⟩ = some (.slice A0_1 l0_1.length c0_1) := (aD BK1.out 1).trans rfl; have hygb1_1_6 := aC BK1.out 1; have hzgb1_2_6 : w6.cell? ⟨gb1, 2, none⟩ = some (.int .i64 a0_2) := (aD BK1.out 2).trans rfl; have hygb1_2_6 := aC BK1.out 2; have hzgb1_3_6 : w6.cell? ⟨gb1, 3, none⟩ = some (.bool a0_3) := (aD BK1.out 3).trans rfl; have hygb1_3_6 := aC BK1.out 3; have hzgb2_0_6 : w6.cell? ⟨gb2, 0, none⟩ = some (.slice none 0 0) := (aD BK2.out 0).trans rfl; have hygb2_0_6 := aC BK2.out 0; have hzgb2_1_6 : w6.cell? ⟨gb2, 1, none⟩ = some (.slice none 0 0) := (aD BK2.out 1).trans rfl; have hygb2_1_6 := aC BK2.out 1; have hzgb2_2_6 : w6.cell? ⟨gb2, 2, none⟩ = some (.int .i64 0) := (aD BK2.out 2).trans rfl; have hygb2_2_6 := aC BK2.out 2; have hzgb2_3_6 : w6.cell? ⟨gb2, 3, none⟩ = some (.bool false) := (aD BK2.out 3).trans rfl; have hygb2_3_6 := aC BK2.out 3; have hzgb4_0_6 : w6.cell? ⟨gb4, 0, none⟩ = some (.slice A3_0 l0_0.length c3_0) := (aD BK4.out 0).trans rfl; have hygb4_0_6 := aC BK4.out 0; have hzgb4_1_6 : w6.cell? ⟨gb4, 1, none⟩ = some (.slice A3_1 l0_1.length c3_1) := (aD BK4.out 1).trans rfl; have hygb4_1_6 := aC BK4.out 1; have hzgb4_2_6 : w6.cell? ⟨gb4, 2, none⟩ = some (.int .i64 a0_2) := (aD BK4.out 2).trans rfl; have hygb4_2_6 := aC BK4.out 2; have hzgb4_3_6 : w6.cell? ⟨gb4, 3, none⟩ = some (.bool a0_3) := (aD BK4.out 3).trans rfl; have hygb4_3_6 := aC BK4.out 3) | ((with_reducible refine bJ (f := 44) rfl ?_); refine goesL_ (some 15) rfl rfl Try.func44 (by kernel_rfl) rfl #[.int .i64 a1, .int .i64 0, .int .i64 1073741823] rfl (by (try simp only [List.map_toArray, List.map_cons, List.map_nil]); first | done | rfl | (simp only [List.length_drop, List.length_take]; rfl)) ?_; (with_reducible refine (impl_within.calls a1 0 1073741823 false _ JW.out).mono ?_); rintro e_ w7 ⟨rfl, hd⟩; refine ⟨_, rfl, ?_⟩; have hb := hd.below; clear hd; have n0_ := aA.mk (Kd.aZ HF0_0.out hb); have n1_ := aA.mk (Kd.aZ HF0_1.out hb); have n2_ := aA.mk (Kd.aZ HF3_0.out hb); have n3_ := aA.mk (Kd.S_below HS3_0.out hb); have n4_ := aA.mk (Kd.aZ HF3_1.out hb); have n5_ := aA.mk (Kd.S_below HS3_1.out hb); have n6_ := aA.mk (aW BK1.out hb); have n7_ := aA.mk (aW BK2.out hb); have n8_ := aA.mk (aW BK4.out hb); have n9_ := aA.mk (bD HB.out hb); have n10_ := aA.mk (Nat.le_trans HT.out hb.size); (try clear HF0_0); (try clear HF0_1); (try clear HF3_0); (try clear HS3_0); (try clear HF3_1); (try clear HS3_1); (try clear BK1); (try clear BK2); (try clear BK4); (try clear HB); (try clear HT); have HF0_0 := n0_; have HF0_1 := n1_; have HF3_0 := n2_; have HS3_0 := n3_; have HF3_1 := n4_; have HS3_1 := n5_; have BK1 := n6_; have BK2 := n7_; have BK4 := n8_; have HB := n9_; have HT := n10_; clear n0_ n1_ n2_ n3_ n4_ n5_ n6_ n7_ n8_ n9_ n10_; (try clear hb); have hzgb1_0_7 : w7.cell? ⟨gb1, 0, none⟩ = some (.slice A0_0 l0_0.length c0_0) := (aD BK1.out 0).trans rfl; have hygb1_0_7 := aC BK1.out 0; have hzgb1_1_7 : w7.cell? ⟨gb1, 1, none⟩ = some (.slice A0_1 l0_1.length c0_1) := (aD BK1.out 1).trans rfl; have hygb1_1_7 := aC BK1.out 1; have hzgb1_2_7 : w7.cell? ⟨gb1, 2, none⟩ = some (.int .i64 a0_2) := (aD BK1.out 2).trans rfl; have hygb1_2_7 := aC BK1.out 2; have hzgb1_3_7 : w7.cell? ⟨gb1, 3, none⟩ = some (.bool a0_3) := (aD BK1.out 3).trans rfl; have hygb1_3_7 := aC BK1.out 3; have hzgb2_0_7 : w7.cell? ⟨gb2, 0, none⟩ = some (.slice none 0 0) := (aD BK2.out 0).trans rfl; have hygb2_0_7 := aC BK2.out 0; have hzgb2_1_7 : w7.cell? ⟨gb2, 1, none⟩ = some (.slice none 0 0) := (aD BK2.out 1).trans rfl; have hygb2_1_7 := aC BK2.out 1; have hzgb2_2_7 : w7.cell? ⟨gb2, 2, none⟩ = some (.int .i64 0) := (aD BK2.out 2).trans rfl; have hygb2_2_7 := aC BK2.out 2; have hzgb2_3_7 : w7.cell? ⟨gb2, 3, none⟩ = some (.bool false) := (aD BK2.out 3).trans rfl; have hygb2_3_7 := aC BK2.out 3; have hzgb4_0_7 : w7.cell? ⟨gb4, 0, none⟩ = some (.slice A3_0 l0_0.length c3_0) := (aD BK4.out 0).trans rfl; have hygb4_0_7 := aC BK4.out 0; have hzgb4_1_7 : w7.cell? ⟨gb4, 1, none⟩ = some (.slice A3_1 l0_1.length c3_1) := (aD BK4.out 1).trans rfl; have hygb4_1_7 := aC BK4.out 1; have hzgb4_2_7 : w7.cell? ⟨gb4, 2, none⟩ = some (.int .i64 a0_2) := (aD BK4.out 2).trans rfl; have hygb4_2_7 := aC BK4.out 2; have hzgb4_3_7 : w7.cell? ⟨gb4, 3, none⟩ = some (.bool a0_3) := (aD BK4.out 3).trans rfl; have hygb4_3_7 := aC BK4.out 3))
 go_loopg [20] (l0_1.length) (fun kq  v8 w' => ∃ (i8 : Nat) (x8 : Int) (u8 : Value), v8 = .int .i64 x8 ∧ aA (x8 = (i8 : Int)) ∧ aA (i8 + kq = l0_1.length) ∧ aA ((gb4 + 1) ≤ w'.heap.size) ∧ aA (Kd.S (Kd.slice 5 (Kd.int .u8)) 37 w' w.heap.size (Up lo3 mm3 (gb4 + 1)) u8 (fallSecs l0_0 l0_1 0 i8)) ∧ aA (Kd.F (Kd.slice 5 (Kd.int .u8)) w' (In 0 w.heap.size) A0_0 l0_0.length l0_0) ∧ aA (Kd.F k50 w' (In 0 w.heap.size) A0_1 l0_1.length l0_1) ∧ aA (Kd.F k50 w' (In mm3 hi3) A3_1 l0_1.length l0_1) ∧ aA (Kd.S k50 50 w' lo3 (In mm3 hi3) (.slice A3_1 l0_1.length c3_1) l0_1) ∧ aA (w'.heap[gb1]? = some (.cells #[.slice A0_0 l0_0.length c0_0, .slice A0_1 l0_1.length c0_1, .int .i64 a0_2, .bool a0_3] 25 (0, 0))) ∧ aA (w'.heap[gb2]? = some (.cells #[.slice none 0 0, .slice none 0 0, .int .i64 0, .bool false] 25 (0, 0))) ∧ aA (w'.heap[gb4]? = some (.cells #[u8, .slice A3_1 l0_1.length c3_1, .int .i64 a0_2, .bool a0_3] 25 (0, 0))) ∧ aA (Below w.heap.size w w'))
 case atStart => exact ⟨0, 0, _, rfl, ⟨rfl⟩, ⟨Nat.zero_add _⟩, HT, ⟨by rw [show fallSecs l0_0 l0_1 0 0 = l0_0 from rfl]; exact Kd.S_mono (Kd.S_lower HS3_0.out (by have o_ := HORD.out; omega)) (fun k_ hk_ => by have o_ := HORD.out; have t_ := HT.out; (try simp only [In2, Up, In, Ex, Exb] at hk_ ⊢); omega)⟩, HF0_0, HF0_1, HF3_1, HS3_1, BK1, BK2, BK4, HB⟩
 clear HF0_0 HF0_1 HF3_1 HS3_1 BK1 BK2 BK4 HB HT HS3_0 HF3_0
 obtain ⟨i8, x8, u8, rfl, HI8, HK8, HT, HS8, HF0_0, HF0_1, HF3_1, HS3_1, BK1, BK2, BK4, HB⟩ := hrel
 obtain ⟨xs8, ex_⟩ : ∃ y_, y_ = fallSecs l0_0 l0_1 0 i8 := ⟨_, rfl⟩
 rw [← ex_] at HS8
 have HX8 := aA.mk ex_
 clear ex_
 obtain ⟨A8, c8, ev_⟩ := Kd.S_slice HS8.out
 subst ev_
 obtain ⟨hi8, e2_⟩ : ∃ n_, n_ = wr.heap.size := ⟨_, rfl⟩
 have ol_ : (gb4 + 1) ≤ hi8 := (by rw [e2_]; exact HT.out)
 have hs_ := Kd.S_mono (ok' := In2 lo3 mm3 (gb4 + 1) hi8) (Kd.S_bound HS8.out) (fun k_ hk_ => by have h1_ := hk_.1; have h2_ := hk_.2.2.1; rw [← e2_] at h2_; (try simp only [In2, Up, In, Ex, Exb] at h1_ ⊢); omega)
 have n0_ := aA.mk (And.intro HORD.out ol_)
 have n1_ := aA.mk (Nat.le_of_eq e2_)
 clear HS8 HORD HT
 have HORD := n0_
 have HT := n1_
 have HS8 := aA.mk hs_
 have HF8 := aA.mk (Kd.S_F hs_)
 have HC8 := aA.mk (Kd.S_reads' hs_).2.1
 clear n0_ n1_ hs_ ol_ e2_
 rcases gk with _ | k1
 rotate_left
 ·have hp_ : 0 ≤ x8 := (by have := HI8.out; omega)
  have hq_ : x8 < (l0_1.length : Int) := (by have := HI8.out; have := HK8.out; omega)
  have hd_ : decide (x8 < (l0_1.length : Int)) = true := decide_eq_true hq_
  have hzgb1_0_8 : wr.cell? ⟨gb1, 0, none⟩ = some (.slice A0_0 l0_0.length c0_0) := (aD BK1.out 0).trans rfl
  have hygb1_0_8 := aC BK1.out 0
  have hzgb1_1_8 : wr.cell? ⟨gb1, 1, none⟩ = some (.slice A0_1 l0_1.length c0_1) := (aD BK1.out 1).trans rfl
  have hygb1_1_8 := aC BK1.out 1
  have hzgb1_2_8 : wr.cell? ⟨gb1, 2, none⟩ = some (.int .i64 a0_2) := (aD BK1.out 2).trans rfl
  have hygb1_2_8 := aC BK1.out 2
  have hzgb1_3_8 : wr.cell? ⟨gb1, 3, none⟩ = some (.bool a0_3) := (aD BK1.out 3).trans rfl
  have hygb1_3_8 := aC BK1.out 3
  have hzgb2_0_8 : wr.cell? ⟨gb2, 0, none⟩ = some (.slice none 0 0) := (aD BK2.out 0).trans rfl
  have hygb2_0_8 := aC BK2.out 0
  have hzgb2_1_8 : wr.cell? ⟨gb2, 1, none⟩ = some (.slice none 0 0) := (aD BK2.out 1).trans rfl
  have hygb2_1_8 := aC BK2.out 1
  have hzgb2_2_8 : wr.cell? ⟨gb2, 2, none⟩ = some (.int .i64 0) := (aD BK2.out 2).trans rfl
  have hygb2_2_8 := aC BK2.out 2
  have hzgb2_3_8 : wr.cell? ⟨gb2, 3, none⟩ = some (.bool false) := (aD BK2.out 3).trans rfl
  have hygb2_3_8 := aC BK2.out 3
  have hzgb4_0_8 : wr.cell? ⟨gb4, 0, none⟩ = some (.slice A8 xs8.length c8) := (aD BK4.out 0).trans rfl
  have hygb4_0_8 := aC BK4.out 0
  have hzgb4_1_8 : wr.cell? ⟨gb4, 1, none⟩ = some (.slice A3_1 l0_1.length c3_1) := (aD BK4.out 1).trans rfl
  have hygb4_1_8 := aC BK4.out 1
  have hzgb4_2_8 : wr.cell? ⟨gb4, 2, none⟩ = some (.int .i64 a0_2) := (aD BK4.out 2).trans rfl
  have hygb4_2_8 := aC BK4.out 2
  have hzgb4_3_8 : wr.cell? ⟨gb4, 3, none⟩ = some (.bool a0_3) := (aD BK4.out 3).trans rfl
  have hygb4_3_8 := aC BK4.out 3
  obtain ⟨ji8, hji_⟩ : ∃ j_ : Int, shr .i64 0 x8 = j_ := ⟨_, rfl⟩
  have hj0_ : shr .i64 0 x8 = 0 := by simp [shr]
  have hji1_ : (0 / 2 ^ min x8.toNat 64 : Int) = 0 := by simp
  have c33_ : ((Go.bits .and .i64 0 1) == 1) = false := by decide
  have c34_ : ((Go.bits .and .i64 0 1) != 1) = true := by decide
  have c35_ : (Go.bits .and .i64 0 1) = 0 := by decide
  have hx0_ := eq_true hp_
  have HJ8 := aA.mk hji_
  have b_ : ¬ Go.bits .and .i64 ji8 1 = 1 := by rw [← hji_, hj0_]; decide
  rcases (show x8 < 30 ∨ ¬ x8 < 30 from by omega) with a_ | a_
  ·have WB_ := aA.mk b_
   have c28_ : decide (x8 < 30) = true := decide_eq_true a_
   have c31_ : ((Go.bits .and .i64 ji8 1) == 1) = false := beq_eq_false_iff_ne.mpr b_
   have c32_ : ((Go.bits .and .i64 ji8 1) != 1) = true := bne_iff_ne.mpr b_
   clear a_ b_
   obtain ⟨ad9, Ae9, ce9, ee9, hx9_0, hx9_1, hl9, hf9⟩ := F_wr HF3_1.out x8 hp_ hq_
   cases ee9
   have HF9 := aA.mk hf9
   have HC9 := aA.mk hl9
   clear hf9 hl9
   go_wp2_with (first | ((with_reducible refine gate_dst (N := 7) rfl ?_); refine box_event ?hg (N := 7) ?hd (cs := #[.int .i64 0, .slice none 0 0]) (t := 50) ?hr ?_; (case hd => rfl); (case hg => rfl); (case hr => first | (go_simp; done) | (go_simp; rfl)); intro gb10 hg_ w10 hbox hb; have hge_ : hi8 ≤ gb10 := (by rw [hg_]; exact HT.out); have hlt_ : gb10 + 1 ≤ w10.heap.size := blk_lt hbox; have n0_ := aA.mk (Kd.aZ HF0_0.out hb); have n1_ := aA.mk (Kd.aZ HF0_1.out hb); have n2_ := aA.mk (Kd.aZ HF3_1.out hb); have n3_ := aA.mk (Kd.S_below HS3_1.out hb); have n4_ := aA.mk (Kd.aZ HF8.out hb); have n5_ := aA.mk (Kd.S_below HS8.out hb); have n6_ := aA.mk (Kd.aZ HF9.out hb); have n7_ := aA.mk (aW BK1.out hb); have n8_ := aA.mk (aW BK2.out hb); have n9_ := aA.mk (aW BK4.out hb); have n10_ := aA.mk (bD HB.out hb); have n11_ := aA.mk (hbox); have n12_ := aA.mk (And.intro HORD.out (And.intro hge_ (Nat.le_succ gb10))); have n13_ := aA.mk (hlt_); (try clear HF0_0); (try clear HF0_1); (try clear HF3_1); (try clear HS3_1); (try clear HF8); (try clear HS8); (try clear HF9); (try clear BK1); (try clear BK2); (try clear BK4); (try clear HB); (try clear BK10); (try clear HORD); (try clear HT); have HF0_0 := n0_; have HF0_1 := n1_; have HF3_1 := n2_; have HS3_1 := n3_; have HF8 := n4_; have HS8 := n5_; have HF9 := n6_; have BK1 := n7_; have BK2 := n8_; have BK4 := n9_; have HB := n10_; have BK10 := n11_; have HORD := n12_; have HT := n13_; clear n0_ n1_ n2_ n3_ n4_ n5_ n6_ n7_ n8_ n9_ n10_ n11_ n12_ n13_; clear hb hbox hg_ hge_ hlt_; have hzgb1_0_10 : w10.cell? ⟨gb1, 0, none⟩ = some (.slice A0_0 l0_0.length c0_0) := (aD BK1.out 0).trans rfl; have hygb1_0_10 := aC BK1.out 0; have hzgb1_1_10 : w10.cell? ⟨gb1, 1, none⟩ = some (.slice A0_1 l0_1.length c0_1) := (aD BK1.out 1).trans rfl; have hygb1_1_10 := aC BK1.out 1; have hzgb1_2_10 : w10.cell? ⟨gb1, 2, none⟩ = some (.int .i64 a0_2) := (aD BK1.out 2).trans rfl; have hygb1_2_10 := aC BK1.out 2; have hzgb1_3_10 : w10.cell? ⟨gb1, 3, none⟩ = some (.bool a0_3) := (aD BK1.out 3).trans rfl; have hygb1_3_10 := aC BK1.out 3; have hzgb2_0_10 : w10.cell? ⟨gb2, 0, none⟩ = some (.slice none 0 0) := (aD BK2.out 0).trans rfl; have hygb2_0_10 := aC BK2.out 0; have hzgb2_1_10 : w10.cell? ⟨gb2, 1, none⟩ = some (.slice none 0 0) := (aD BK2.out 1).trans rfl; have hygb2_1_10 := aC BK2.out 1; have hzgb2_2_10 : w10.cell? ⟨gb2, 2, none⟩ = some (.int .i64 0) := (aD BK2.out 2).trans rfl; have hygb2_2_10 := aC BK2.out 2; have hzgb2_3_10 : w10.cell? ⟨gb2, 3, none⟩ = some (.bool false) := (aD BK2.out 3).trans rfl; have hygb2_3_10 := aC BK2.out 3; have hzgb4_0_10 : w10.cell? ⟨gb4, 0, none⟩ = some (.slice A8 xs8.length c8) := (aD BK4.out 0).trans rfl; have hygb4_0_10 := aC BK4.out 0; have hzgb4_1_10 : w10.cell? ⟨gb4, 1, none⟩ = some (.slice (some ad9) l0_1.length c3_1) := (aD BK4.out 1).trans rfl; have hygb4_1_10 := aC BK4.out 1; have hzgb4_2_10 : w10.cell? ⟨gb4, 2, none⟩ = some (.int .i64 a0_2) := (aD BK4.out 2).trans rfl; have hygb4_2_10 := aC BK4.out 2; have hzgb4_3_10 : w10.cell? ⟨gb4, 3, none⟩ = some (.bool a0_3) := (aD BK4.out 3).trans rfl; have hygb4_3_10 := aC BK4.out 3; have hzgb10_0_10 : w10.cell? ⟨gb10, 0, none⟩ = some (.int .i64 0) := (aD BK10.out 0).trans rfl; have hygb10_0_10 := aC BK10.out 0; have hzgb10_1_10 : w10.cell? ⟨gb10, 1, none⟩ = some (.slice none 0 0) := (aD BK10.out 1).trans rfl; have hygb10_1_10 := aC BK10.out 1) | ((with_reducible refine gate_store (t := 50) (p := 7) rfl ?_); refine store_event (t := 50) (p := 7) (v := ?vo_w11) (w1 := ((w10.setCell ⟨gb10, 0, none⟩ (.int .i64 ((rdW l0_1 x8).f0))).setCell ⟨gb10, 1, none⟩ (.slice Ae9 ((rdW l0_1 x8).f1).length ce9))) ?hg ?ho ?hn ?hr ?_; (case ho => rfl); (case hg => rfl); (case hn => rfl); (case hr => first | (go_simp; done) | (go_simp; rfl)); intro w11 hw_; have hkp : Kept w10 w11 (fun k_ => k_ = gb10) := (by rw [hw_]; exact Kept.setCell (Kept.setCell (Kept.refl w10 (fun k_ => k_ = gb10)) (.inl rfl) (.int .i64 ((rdW l0_1 x8).f0))) (.inl rfl) (.slice Ae9 ((rdW l0_1 x8).f1).length ce9)); have hge_ : w.heap.size ≤ gb10 := (by have o_ := HORD.out; (try unfold In at *); (try show _ ≠ _); omega); have hbn_ : Below w.heap.size w w11 := (by rw [hw_]; exact aE (aE (HB.out) hge_) hge_); have hbk_ : w11.heap[gb10]? = some (.cells #[.int .i64 ((rdW l0_1 x8).f0), .slice Ae9 ((rdW l0_1 x8).f1).length ce9] 50 (0, 0)) := (by rw [hw_]; exact bE (cs := #[.int .i64 ((rdW l0_1 x8).f0), .slice none 0 0]) (cs' := #[.int .i64 ((rdW l0_1 x8).f0), .slice Ae9 ((rdW l0_1 x8).f1).length ce9]) (bE (cs := #[.int .i64 0, .slice none 0 0]) (cs' := #[.int .i64 ((rdW l0_1 x8).f0), .slice none 0 0]) (BK10.out) 0 _ rfl) 1 _ rfl); have hsz_ : (gb10 + 1) ≤ w11.heap.size := Nat.le_trans HT.out hkp.1; have n0_ := aA.mk (Kd.bF HF0_0.out hkp (fun k_ h1_ h2_ => by have o_ := HORD.out; have t_ := HT.out; (try simp only [In2, Up, In, Ex, Exb] at h1_ h2_); omega)); have n1_ := aA.mk (Kd.bF HF0_1.out hkp (fun k_ h1_ h2_ => by have o_ := HORD.out; have t_ := HT.out; (try simp only [In2, Up, In, Ex, Exb] at h1_ h2_); omega)); have n2_ := aA.mk (Kd.bF HF3_1.out hkp (fun k_ h1_ h2_ => by have o_ := HORD.out; have t_ := HT.out; (try simp only [In2, Up, In, Ex, Exb] at h1_ h2_); omega)); have n3_ := aA.mk (Kd.S_kept HS3_1.out hkp (fun k_ h1_ h2_ => by have o_ := HORD.out; have t_ := HT.out; (try simp only [In2, Up, In, Ex, Exb] at h1_ h2_); omega)); have n4_ := aA.mk (Kd.bF HF8.out hkp (fun k_ h1_ h2_ => by have o_ := HORD.out; have t_ := HT.out; (try simp only [In2, Up, In, Ex, Exb] at h1_ h2_); omega)); have n5_ := aA.mk (Kd.S_kept HS8.out hkp (fun k_ h1_ h2_ => by have o_ := HORD.out; have t_ := HT.out; (try simp only [In2, Up, In, Ex, Exb] at h1_ h2_); omega)); have n6_ := aA.mk (Kd.bF HF9.out hkp (fun k_ h1_ h2_ => by have o_ := HORD.out; have t_ := HT.out; (try simp only [In2, Up, In, Ex, Exb] at h1_ h2_); omega)); have n7_ := aA.mk (bG BK1.out hkp (fun h2_ => by have o_ := HORD.out; have t_ := HT.out; (try simp only [In2, Up, In, Ex, Exb] at h2_); omega)); have n8_ := aA.mk (bG BK2.out hkp (fun h2_ => by have o_ := HORD.out; have t_ := HT.out; (try simp only [In2, Up, In, Ex, Exb] at h2_); omega)); have n9_ := aA.mk (bG BK4.out hkp (fun h2_ => by have o_ := HORD.out; have t_ := HT.out; (try simp only [In2, Up, In, Ex, Exb] at h2_); omega)); have n10_ := aA.mk (hbn_); have n11_ := aA.mk (hbk_); have n12_ := aA.mk (hsz_); (try clear HF0_0); (try clear HF0_1); (try clear HF3_1); (try clear HS3_1); (try clear HF8); (try clear HS8); (try clear HF9); (try clear BK1); (try clear BK2); (try clear BK4); (try clear HB); (try clear BK10); (try clear HT); have HF0_0 := n0_; have HF0_1 := n1_; have HF3_1 := n2_; have HS3_1 := n3_; have HF8 := n4_; have HS8 := n5_; have HF9 := n6_; have BK1 := n7_; have BK2 := n8_; have BK4 := n9_; have HB := n10_; have BK10 := n11_; have HT := n12_; clear n0_ n1_ n2_ n3_ n4_ n5_ n6_ n7_ n8_ n9_ n10_ n11_ n12_; clear hw_ hkp hge_ hbn_ hbk_ hsz_; have hzgb1_0_11 : w11.cell? ⟨gb1, 0, none⟩ = some (.slice A0_0 l0_0.length c0_0) := (aD BK1.out 0).trans rfl; have hygb1_0_11 := aC BK1.out 0; have hzgb1_1_11 : w11.cell? ⟨gb1, 1, none⟩ = some (.slice A0_1 l0_1.length c0_1) := (aD BK1.out 1).trans rfl; have hygb1_1_11 := aC BK1.out 1; have hzgb1_2_11 : w11.cell? ⟨gb1, 2, none⟩ = some (.int .i64 a0_2) := (aD BK1.out 2).trans rfl; have hygb1_2_11 := aC BK1.out 2; have hzgb1_3_11 : w11.cell? ⟨gb1, 3, none⟩ = some (.bool a0_3) := (aD BK1.out 3).trans rfl; have hygb1_3_11 := aC BK1.out 3; have hzgb2_0_11 : w11.cell? ⟨gb2, 0, none⟩ = some (.slice none 0 0) := (aD BK2.out 0).trans rfl; have hygb2_0_11 := aC BK2.out 0; have hzgb2_1_11 : w11.cell? ⟨gb2, 1, none⟩ = some (.slice none 0 0) := (aD BK2.out 1).trans rfl; have hygb2_1_11 := aC BK2.out 1; have hzgb2_2_11 : w11.cell? ⟨gb2, 2, none⟩ = some (.int .i64 0) := (aD BK2.out 2).trans rfl; have hygb2_2_11 := aC BK2.out 2; have hzgb2_3_11 : w11.cell? ⟨gb2, 3, none⟩ = some (.bool false) := (aD BK2.out 3).trans rfl; have hygb2_3_11 := aC BK2.out 3; have hzgb4_0_11 : w11.cell? ⟨gb4, 0, none⟩ = some (.slice A8 xs8.length c8) := (aD BK4.out 0).trans rfl; have hygb4_0_11 := aC BK4.out 0; have hzgb4_1_11 : w11.cell? ⟨gb4, 1, none⟩ = some (.slice (some ad9) l0_1.length c3_1) := (aD BK4.out 1).trans rfl; have hygb4_1_11 := aC BK4.out 1; have hzgb4_2_11 : w11.cell? ⟨gb4, 2, none⟩ = some (.int .i64 a0_2) := (aD BK4.out 2).trans rfl; have hygb4_2_11 := aC BK4.out 2; have hzgb4_3_11 : w11.cell? ⟨gb4, 3, none⟩ = some (.bool a0_3) := (aD BK4.out 3).trans rfl; have hygb4_3_11 := aC BK4.out 3; have hzgb10_0_11 : w11.cell? ⟨gb10, 0, none⟩ = some (.int .i64 ((rdW l0_1 x8).f0)) := (aD BK10.out 0).trans rfl; have hygb10_0_11 := aC BK10.out 0; have hzgb10_1_11 : w11.cell? ⟨gb10, 1, none⟩ = some (.slice Ae9 ((rdW l0_1 x8).f1).length ce9) := (aD BK10.out 1).trans rfl; have hygb10_1_11 := aC BK10.out 1))
   go_roundg k1
   case measure => omega
   case rel => exact ⟨i8 + 1, _, _, rfl, ⟨show _ = ((i8 + 1 : Nat) : Int) by have := HI8.out; have hm_ := (okWrS_len hok1); have := HK8.out; first | (rw [w64 (by omega) (by omega)]; omega) | omega⟩, ⟨by have := HK8.out; omega⟩, ⟨Nat.le_trans (by have o_ := HORD.out; omega) HT.out⟩, ⟨by rw [show fallSecs l0_0 l0_1 0 (i8 + 1) = xs8 from (by rw [HX8.out]; exact fall_f1 rfl HI8.out HJ8.out WB_.out)]; exact Kd.S_mono (Kd.S_lower HS8.out (by have o_ := HORD.out; omega)) (fun k_ hk_ => by have o_ := HORD.out; have t_ := HT.out; (try simp only [In2, Up, In, Ex, Exb] at hk_ ⊢); omega)⟩, HF0_0, HF0_1, HF3_1, HS3_1, BK1, BK2, BK4, HB⟩
  ·have WA_ := aA.mk a_
   have c28_ : decide (x8 < 30) = false := decide_eq_false (by omega)
   clear a_
   obtain ⟨ad12, Ae12, ce12, ee12, hx12_0, hx12_1, hl12, hf12⟩ := F_wr HF3_1.out x8 hp_ hq_
   cases ee12
   have HF12 := aA.mk hf12
   have HC12 := aA.mk hl12
   clear hf12 hl12
   go_wp2_with (first | ((with_reducible refine gate_dst (N := 7) rfl ?_); refine box_event ?hg (N := 7) ?hd (cs := #[.int .i64 0, .slice none 0 0]) (t := 50) ?hr ?_; (case hd => rfl); (case hg => rfl); (case hr => first | (go_simp; done) | (go_simp; rfl)); intro gb13 hg_ w13 hbox hb; have hge_ : hi8 ≤ gb13 := (by rw [hg_]; exact HT.out); have hlt_ : gb13 + 1 ≤ w13.heap.size := blk_lt hbox; have n0_ := aA.mk (Kd.aZ HF0_0.out hb); have n1_ := aA.mk (Kd.aZ HF0_1.out hb); have n2_ := aA.mk (Kd.aZ HF3_1.out hb); have n3_ := aA.mk (Kd.S_below HS3_1.out hb); have n4_ := aA.mk (Kd.aZ HF8.out hb); have n5_ := aA.mk (Kd.S_below HS8.out hb); have n6_ := aA.mk (Kd.aZ HF12.out hb); have n7_ := aA.mk (aW BK1.out hb); have n8_ := aA.mk (aW BK2.out hb); have n9_ := aA.mk (aW BK4.out hb); have n10_ := aA.mk (bD HB.out hb); have n11_ := aA.mk (hbox); have n12_ := aA.mk (And.intro HORD.out (And.intro hge_ (Nat.le_succ gb13))); have n13_ := aA.mk (hlt_); (try clear HF0_0); (try clear HF0_1); (try clear HF3_1); (try clear HS3_1); (try clear HF8); (try clear HS8); (try clear HF12); (try clear BK1); (try clear BK2); (try clear BK4); (try clear HB); (try clear BK13); (try clear HORD); (try clear HT); have HF0_0 := n0_; have HF0_1 := n1_; have HF3_1 := n2_; have HS3_1 := n3_; have HF8 := n4_; have HS8 := n5_; have HF12 := n6_; have BK1 := n7_; have BK2 := n8_; have BK4 := n9_; have HB := n10_; have BK13 := n11_; have HORD := n12_; have HT := n13_; clear n0_ n1_ n2_ n3_ n4_ n5_ n6_ n7_ n8_ n9_ n10_ n11_ n12_ n13_; clear hb hbox hg_ hge_ hlt_; have hzgb1_0_13 : w13.cell? ⟨gb1, 0, none⟩ = some (.slice A0_0 l0_0.length c0_0) := (aD BK1.out 0).trans rfl; have hygb1_0_13 := aC BK1.out 0; have hzgb1_1_13 : w13.cell? ⟨gb1, 1, none⟩ = some (.slice A0_1 l0_1.length c0_1) := (aD BK1.out 1).trans rfl; have hygb1_1_13 := aC BK1.out 1; have hzgb1_2_13 : w13.cell? ⟨gb1, 2, none⟩ = some (.int .i64 a0_2) := (aD BK1.out 2).trans rfl; have hygb1_2_13 := aC BK1.out 2; have hzgb1_3_13 : w13.cell? ⟨gb1, 3, none⟩ = some (.bool a0_3) := (aD BK1.out 3).trans rfl; have hygb1_3_13 := aC BK1.out 3; have hzgb2_0_13 : w13.cell? ⟨gb2, 0, none⟩ = some (.slice none 0 0) := (aD BK2.out 0).trans rfl; have hygb2_0_13 := aC BK2.out 0; have hzgb2_1_13 : w13.cell? ⟨gb2, 1, none⟩ = some (.slice none 0 0) := (aD BK2.out 1).trans rfl; have hygb2_1_13 := aC BK2.out 1; have hzgb2_2_13 : w13.cell? ⟨gb2, 2, none⟩ = some (.int .i64 0) := (aD BK2.out 2).trans rfl; have hygb2_2_13 := aC BK2.out 2; have hzgb2_3_13 : w13.cell? ⟨gb2, 3, none⟩ = some (.bool false) := (aD BK2.out 3).trans rfl; have hygb2_3_13 := aC BK2.out 3; have hzgb4_0_13 : w13.cell? ⟨gb4, 0, none⟩ = some (.slice A8 xs8.length c8) := (aD BK4.out 0).trans rfl; have hygb4_0_13 := aC BK4.out 0; have hzgb4_1_13 : w13.cell? ⟨gb4, 1, none⟩ = some (.slice (some ad12) l0_1.length c3_1) := (aD BK4.out 1).trans rfl; have hygb4_1_13 := aC BK4.out 1; have hzgb4_2_13 : w13.cell? ⟨gb4, 2, none⟩ = some (.int .i64 a0_2) := (aD BK4.out 2).trans rfl; have hygb4_2_13 := aC BK4.out 2; have hzgb4_3_13 : w13.cell? ⟨gb4, 3, none⟩ = some (.bool a0_3) := (aD BK4.out 3).trans rfl; have hygb4_3_13 := aC BK4.out 3; have hzgb13_0_13 : w13.cell? ⟨gb13, 0, none⟩ = some (.int .i64 0) := (aD BK13.out 0).trans rfl; have hygb13_0_13 := aC BK13.out 0; have hzgb13_1_13 : w13.cell? ⟨gb13, 1, none⟩ = some (.slice none 0 0) := (aD BK13.out 1).trans rfl; have hygb13_1_13 := aC BK13.out 1) | ((with_reducible refine gate_store (t := 50) (p := 7) rfl ?_); refine store_event (t := 50) (p := 7) (v := ?vo_w14) (w1 := ((w13.setCell ⟨gb13, 0, none⟩ (.int .i64 ((rdW l0_1 x8).f0))).setCell ⟨gb13, 1, none⟩ (.slice Ae12 ((rdW l0_1 x8).f1).length ce12))) ?hg ?ho ?hn ?hr ?_; (case ho => rfl); (case hg => rfl); (case hn => rfl); (case hr => first | (go_simp; done) | (go_simp; rfl)); intro w14 hw_; have hkp : Kept w13 w14 (fun k_ => k_ = gb13) := (by rw [hw_]; exact Kept.setCell (Kept.setCell (Kept.refl w13 (fun k_ => k_ = gb13)) (.inl rfl) (.int .i64 ((rdW l0_1 x8).f0))) (.inl rfl) (.slice Ae12 ((rdW l0_1 x8).f1).length ce12)); have hge_ : w.heap.size ≤ gb13 := (by have o_ := HORD.out; (try unfold In at *); (try show _ ≠ _); omega); have hbn_ : Below w.heap.size w w14 := (by rw [hw_]; exact aE (aE (HB.out) hge_) hge_); have hbk_ : w14.heap[gb13]? = some (.cells #[.int .i64 ((rdW l0_1 x8).f0), .slice Ae12 ((rdW l0_1 x8).f1).length ce12] 50 (0, 0)) := (by rw [hw_]; exact bE (cs := #[.int .i64 ((rdW l0_1 x8).f0), .slice none 0 0]) (cs' := #[.int .i64 ((rdW l0_1 x8).f0), .slice Ae12 ((rdW l0_1 x8).f1).length ce12]) (bE (cs := #[.int .i64 0, .slice none 0 0]) (cs' := #[.int .i64 ((rdW l0_1 x8).f0), .slice none 0 0]) (BK13.out) 0 _ rfl) 1 _ rfl); have hsz_ : (gb13 + 1) ≤ w14.heap.size := Nat.le_trans HT.out hkp.1; have n0_ := aA.mk (Kd.bF HF0_0.out hkp (fun k_ h1_ h2_ => by have o_ := HORD.out; have t_ := HT.out; (try simp only [In2, Up, In, Ex, Exb] at h1_ h2_); omega)); have n1_ := aA.mk (Kd.bF HF0_1.out hkp (fun k_ h1_ h2_ => by have o_ := HORD.out; have t_ := HT.out; (try simp only [In2, Up, In, Ex, Exb] at h1_ h2_); omega)); have n2_ := aA.mk (Kd.bF HF3_1.out hkp (fun k_ h1_ h2_ => by have o_ := HORD.out; have t_ := HT.out; (try simp only [In2, Up, In, Ex, Exb] at h1_ h2_); omega)); have n3_ := aA.mk (Kd.S_kept HS3_1.out hkp (fun k_ h1_ h2_ => by have o_ := HORD.out; have t_ := HT.out; (try simp only [In2, Up, In, Ex, Exb] at h1_ h2_); omega)); have n4_ := aA.mk (Kd.bF HF8.out hkp (fun k_ h1_ h2_ => by have o_ := HORD.out; have t_ := HT.out; (try simp only [In2, Up, In, Ex, Exb] at h1_ h2_); omega)); have n5_ := aA.mk (Kd.S_kept HS8.out hkp (fun k_ h1_ h2_ => by have o_ := HORD.out; have t_ := HT.out; (try simp only [In2, Up, In, Ex, Exb] at h1_ h2_); omega)); have n6_ := aA.mk (Kd.bF HF12.out hkp (fun k_ h1_ h2_ => by have o_ := HORD.out; have t_ := HT.out; (try simp only [In2, Up, In, Ex, Exb] at h1_ h2_); omega)); have n7_ := aA.mk (bG BK1.out hkp (fun h2_ => by have o_ := HORD.out; have t_ := HT.out; (try simp only [In2, Up, In, Ex, Exb] at h2_); omega)); have n8_ := aA.mk (bG BK2.out hkp (fun h2_ => by have o_ := HORD.out; have t_ := HT.out; (try simp only [In2, Up, In, Ex, Exb] at h2_); omega)); have n9_ := aA.mk (bG BK4.out hkp (fun h2_ => by have o_ := HORD.out; have t_ := HT.out; (try simp only [In2, Up, In, Ex, Exb] at h2_); omega)); have n10_ := aA.mk (hbn_); have n11_ := aA.mk (hbk_); have n12_ := aA.mk (hsz_); (try clear HF0_0); (try clear HF0_1); (try clear HF3_1); (try clear HS3_1); (try clear HF8); (try clear HS8); (try clear HF12); (try clear BK1); (try clear BK2); (try clear BK4); (try clear HB); (try clear BK13); (try clear HT); have HF0_0 := n0_; have HF0_1 := n1_; have HF3_1 := n2_; have HS3_1 := n3_; have HF8 := n4_; have HS8 := n5_; have HF12 := n6_; have BK1 := n7_; have BK2 := n8_; have BK4 := n9_; have HB := n10_; have BK13 := n11_; have HT := n12_; clear n0_ n1_ n2_ n3_ n4_ n5_ n6_ n7_ n8_ n9_ n10_ n11_ n12_; clear hw_ hkp hge_ hbn_ hbk_ hsz_; have hzgb1_0_14 : w14.cell? ⟨gb1, 0, none⟩ = some (.slice A0_0 l0_0.length c0_0) := (aD BK1.out 0).trans rfl; have hygb1_0_14 := aC BK1.out 0; have hzgb1_1_14 : w14.cell? ⟨gb1, 1, none⟩ = some (.slice A0_1 l0_1.length c0_1) := (aD BK1.out 1).trans rfl; have hygb1_1_14 := aC BK1.out 1; have hzgb1_2_14 : w14.cell? ⟨gb1, 2, none⟩ = some (.int .i64 a0_2) := (aD BK1.out 2).trans rfl; have hygb1_2_14 := aC BK1.out 2; have hzgb1_3_14 : w14.cell? ⟨gb1, 3, none⟩ = some (.bool a0_3) := (aD BK1.out 3).trans rfl; have hygb1_3_14 := aC BK1.out 3; have hzgb2_0_14 : w14.cell? ⟨gb2, 0, none⟩ = some (.slice none 0 0) := (aD BK2.out 0).trans rfl; have hygb2_0_14 := aC BK2.out 0; have hzgb2_1_14 : w14.cell? ⟨gb2, 1, none⟩ = some (.slice none 0 0) := (aD BK2.out 1).trans rfl; have hygb2_1_14 := aC BK2.out 1; have hzgb2_2_14 : w14.cell? ⟨gb2, 2, none⟩ = some (.int .i64 0) := (aD BK2.out 2).trans rfl; have hygb2_2_14 := aC BK2.out 2; have hzgb2_3_14 : w14.cell? ⟨gb2, 3, none⟩ = some (.bool false) := (aD BK2.out 3).trans rfl; have hygb2_3_14 := aC BK2.out 3; have hzgb4_0_14 : w14.cell? ⟨gb4, 0, none⟩ = some (.slice A8 xs8.length c8) := (aD BK4.out 0).trans rfl; have hygb4_0_14 := aC BK4.out 0; have hzgb4_1_14 : w14.cell? ⟨gb4, 1, none⟩ = some (.slice (some ad12) l0_1.length c3_1) := (aD BK4.out 1).trans rfl; have hygb4_1_14 := aC BK4.out 1; have hzgb4_2_14 : w14.cell? ⟨gb4, 2, none⟩ = some (.int .i64 a0_2) := (aD BK4.out 2).trans rfl; have hygb4_2_14 := aC BK4.out 2; have hzgb4_3_14 : w14.cell? ⟨gb4, 3, none⟩ = some (.bool a0_3) := (aD BK4.out 3).trans rfl; have hygb4_3_14 := aC BK4.out 3; have hzgb13_0_14 : w14.cell? ⟨gb13, 0, none⟩ = some (.int .i64 ((rdW l0_1 x8).f0)) := (aD BK13.out 0).trans rfl; have hygb13_0_14 := aC BK13.out 0; have hzgb13_1_14 : w14.cell? ⟨gb13, 1, none⟩ = some (.slice Ae12 ((rdW l0_1 x8).f1).length ce12) := (aD BK13.out 1).trans rfl; have hygb13_1_14 := aC BK13.out 1))
   go_roundg k1
   case measure => omega
   case rel => exact ⟨i8 + 1, _, _, rfl, ⟨show _ = ((i8 + 1 : Nat) : Int) by have := HI8.out; have hm_ := (okWrS_len hok1); have := HK8.out; first | (rw [w64 (by omega) (by omega)]; omega) | omega⟩, ⟨by have := HK8.out; omega⟩, ⟨Nat.le_trans (by have o_ := HORD.out; omega) HT.out⟩, ⟨by rw [show fallSecs l0_0 l0_1 0 (i8 + 1) = xs8 from (by rw [HX8.out]; exact fall_f2 HI8.out (by have := WA_.out; omega))]; exact Kd.S_mono (Kd.S_lower HS8.out (by have o_ := HORD.out; omega)) (fun k_ hk_ => by have o_ := HORD.out; have t_ := HT.out; (try simp only [In2, Up, In, Ex, Exb] at hk_ ⊢); omega)⟩, HF0_0, HF0_1, HF3_1, HS3_1, BK1, BK2, BK4, HB⟩
 have hi0_ : i8 = l0_1.length := (by have := HK8.out; omega)
 have hd_ : decide (x8 < (l0_1.length : Int)) = false := decide_eq_false (by have := HI8.out; omega)
 have eall_ : xs8 = (fallSecs l0_0 l0_1 0 l0_1.length) := (by rw [HX8.out, hi0_])
 rw [eall_] at HS8 HF8 HC8 BK4
 have hzgb1_0_14 : wr.cell? ⟨gb1, 0, none⟩ = some (.slice A0_0 l0_0.length c0_0) := (aD BK1.out 0).trans rfl
 have hygb1_0_14 := aC BK1.out 0
 have hzgb1_1_14 : wr.cell? ⟨gb1, 1, none⟩ = some (.slice A0_1 l0_1.length c0_1) := (aD BK1.out 1).trans rfl
 have hygb1_1_14 := aC BK1.out 1
 have hzgb1_2_14 : wr.cell? ⟨gb1, 2, none⟩ = some (.int .i64 a0_2) := (aD BK1.out 2).trans rfl
 have hygb1_2_14 := aC BK1.out 2
 have hzgb1_3_14 : wr.cell? ⟨gb1, 3, none⟩ = some (.bool a0_3) := (aD BK1.out 3).trans rfl
 have hygb1_3_14 := aC BK1.out 3
 have hzgb2_0_14 : wr.cell? ⟨gb2, 0, none⟩ = some (.slice none 0 0) := (aD BK2.out 0).trans rfl
 have hygb2_0_14 := aC BK2.out 0
 have hzgb2_1_14 : wr.cell? ⟨gb2, 1, none⟩ = some (.slice none 0 0) := (aD BK2.out 1).trans rfl
 have hygb2_1_14 := aC BK2.out 1
 have hzgb2_2_14 : wr.cell? ⟨gb2, 2, none⟩ = some (.int .i64 0) := (aD BK2.out 2).trans rfl
 have hygb2_2_14 := aC BK2.out 2
 have hzgb2_3_14 : wr.cell? ⟨gb2, 3, none⟩ = some (.bool false) := (aD BK2.out 3).trans rfl
 have hygb2_3_14 := aC BK2.out 3
 have hzgb4_0_14 : wr.cell? ⟨gb4, 0, none⟩ = some (.slice A8 ((fallSecs l0_0 l0_1 0 l0_1.length)).length c8) := (aD BK4.out 0).trans rfl
 have hygb4_0_14 := aC BK4.out 0
 have hzgb4_1_14 : wr.cell? ⟨gb4, 1, none⟩ = some (.slice A3_1 l0_1.length c3_1) := (aD BK4.out 1).trans rfl
 have hygb4_1_14 := aC BK4.out 1
 have hzgb4_2_14 : wr.cell? ⟨gb4, 2, none⟩ = some (.int .i64 a0_2) := (aD BK4.out 2).trans rfl
 have hygb4_2_14 := aC BK4.out 2
 have hzgb4_3_14 : wr.cell? ⟨gb4, 3, none⟩ = some (.bool a0_3) := (aD BK4.out 3).trans rfl
 have hygb4_3_14 := aC BK4.out 3
 go_wp2_with (first | ((with_reducible refine gate_store (t := 23) (p := 44) rfl ?_); refine store_event (t := 23) (p := 44) (v := ?vo_w15) (w1 := (wr.setCell ⟨gb4, 1, none⟩ (.slice none 0 0))) ?hg ?ho ?hn ?hr ?_; (case ho => rfl); (case hg => rfl); (case hn => rfl); (case hr => first | (go_simp; done) | (go_simp; rfl)); intro w15 hw_; have hkp : Kept wr w15 (fun k_ => k_ = gb4) := (by rw [hw_]; exact Kept.setCell (Kept.refl wr (fun k_ => k_ = gb4)) (.inl rfl) (.slice none 0 0)); have hge_ : w.heap.size ≤ gb4 := (by have o_ := HORD.out; (try unfold In at *); (try show _ ≠ _); omega); have hbn_ : Below w.heap.size w w15 := (by rw [hw_]; exact aE (HB.out) hge_); have hbk_ : w15.heap[gb4]? = some (.cells #[.slice A8 ((fallSecs l0_0 l0_1 0 l0_1.length)).length c8, .slice none 0 0, .int .i64 a0_2, .bool a0_3] 25 (0, 0)) := (by rw [hw_]; exact bE (cs := #[.slice A8 ((fallSecs l0_0 l0_1 0 l0_1.length)).length c8, .slice A3_1 l0_1.length c3_1, .int .i64 a0_2, .bool a0_3]) (cs' := #[.slice A8 ((fallSecs l0_0 l0_1 0 l0_1.length)).length c8, .slice none 0 0, .int .i64 a0_2, .bool a0_3]) (BK4.out) 1 _ rfl); have hsz_ : hi8 ≤ w15.heap.size := Nat.le_trans HT.out hkp.1; have n0_ := aA.mk (Kd.bF HF0_0.out hkp (fun k_ h1_ h2_ => by have o_ := HORD.out; have t_ := HT.out; (try simp only [In2, Up, In, Ex, Exb] at h1_ h2_); omega)); have n1_ := aA.mk (Kd.bF HF0_1.out hkp (fun k_ h1_ h2_ => by have o_ := HORD.out; have t_ := HT.out; (try simp only [In2, Up, In, Ex, Exb] at h1_ h2_); omega)); have n2_ := aA.mk (Kd.bF HF3_1.out hkp (fun k_ h1_ h2_ => by have o_ := HORD.out; have t_ := HT.out; (try simp only [In2, Up, In, Ex, Exb] at h1_ h2_); omega)); have n3_ := aA.mk (Kd.S_kept HS3_1.out hkp (fun k_ h1_ h2_ => by have o_ := HORD.out; have t_ := HT.out; (try simp only [In2, Up, In, Ex, Exb] at h1_ h2_); omega)); have n4_ := aA.mk (Kd.bF HF8.out hkp (fun k_ h1_ h2_ => by have o_ := HORD.out; have t_ := HT.out; (try simp only [In2, Up, In, Ex, Exb] at h1_ h2_); omega)); have n5_ := aA.mk (Kd.S_kept HS8.out hkp (fun k_ h1_ h2_ => by have o_ := HORD.out; have t_ := HT.out; (try simp only [In2, Up, In, Ex, Exb] at h1_ h2_); omega)); have n6_ := aA.mk (bG BK1.out hkp (fun h2_ => by have o_ := HORD.out; have t_ := HT.out; (try simp only [In2, Up, In, Ex, Exb] at h2_); omega)); have n7_ := aA.mk (bG BK2.out hkp (fun h2_ => by have o_ := HORD.out; have t_ := HT.out; (try simp only [In2, Up, In, Ex, Exb] at h2_); omega)); have n8_ := aA.mk (hbn_); have n9_ := aA.mk (hbk_); have n10_ := aA.mk (hsz_); (try clear HF0_0); (try clear HF0_1); (try clear HF3_1); (try clear HS3_1); (try clear HF8); (try clear HS8); (try clear BK1); (try clear BK2); (try clear HB); (try clear BK4); (try clear HT); have HF0_0 := n0_; have HF0_1 := n1_; have HF3_1 := n2_; have HS3_1 := n3_; have HF8 := n4_; have HS8 := n5_; have BK1 := n6_; have BK2 := n7_; have HB := n8_; have BK4 := n9_; have HT := n10_; clear n0_ n1_ n2_ n3_ n4_ n5_ n6_ n7_ n8_ n9_ n10_; clear hw_ hkp hge_ hbn_ hbk_ hsz_; have hzgb1_0_15 : w15.cell? ⟨gb1, 0, none⟩ = some (.slice A0_0 l0_0.length c0_0) := (aD BK1.out 0).trans rfl; have hygb1_0_15 := aC BK1.out 0; have hzgb1_1_15 : w15.cell? ⟨gb1, 1, none⟩ = some (.slice A0_1 l0_1.length c0_1) := (aD BK1.out 1).trans rfl; have hygb1_1_15 := aC BK1.out 1; have hzgb1_2_15 : w15.cell? ⟨gb1, 2, none⟩ = some (.int .i64 a0_2) := (aD BK1.out 2).trans rfl; have hygb1_2_15 := aC BK1.out 2; have hzgb1_3_15 : w15.cell? ⟨gb1, 3, none⟩ = some (.bool a0_3) := (aD BK1.out 3).trans rfl; have hygb1_3_15 := aC BK1.out 3; have hzgb2_0_15 : w15.cell? ⟨gb2, 0, none⟩ = some (.slice none 0 0) := (aD BK2.out 0).trans rfl; have hygb2_0_15 := aC BK2.out 0; have hzgb2_1_15 : w15.cell? ⟨gb2, 1, none⟩ = some (.slice none 0 0) := (aD BK2.out 1).trans rfl; have hygb2_1_15 := aC BK2.out 1; have hzgb2_2_15 : w15.cell? ⟨gb2, 2, none⟩ = some (.int .i64 0) := (aD BK2.out 2).trans rfl; have hygb2_2_15 := aC BK2.out 2; have hzgb2_3_15 : w15.cell? ⟨gb2, 3, none⟩ = some (.bool false) := (aD BK2.out 3).trans rfl; have hygb2_3_15 := aC BK2.out 3; have hzgb4_0_15 : w15.cell? ⟨gb4, 0, none⟩ = some (.slice A8 ((fallSecs l0_0 l0_1 0 l0_1.length)).length c8) := (aD BK4.out 0).trans rfl; have hygb4_0_15 := aC BK4.out 0; have hzgb4_1_15 : w15.cell? ⟨gb4, 1, none⟩ = some (.slice none 0 0) := (aD BK4.out 1).trans rfl; have hygb4_1_15 := aC BK4.out 1; have hzgb4_2_15 : w15.cell? ⟨gb4, 2, none⟩ = some (.int .i64 a0_2) := (aD BK4.out 2).trans rfl; have hygb4_2_15 := aC BK4.out 2; have hzgb4_3_15 : w15.cell? ⟨gb4, 3, none⟩ = some (.bool a0_3) := (aD BK4.out 3).trans rfl; have hygb4_3_15 := aC BK4.out 3) | ((with_reducible refine gate_store (t := 4) (p := 45) rfl ?_); refine store_event (t := 4) (p := 45) (v := ?vo_w16) (w1 := (w15.setCell ⟨gb4, 3, none⟩ (.bool false))) ?hg ?ho ?hn ?hr ?_; (case ho => rfl); (case hg => rfl); (case hn => rfl); (case hr => first | (go_simp; done) | (go_simp; rfl)); intro w16 hw_; have hkp : Kept w15 w16 (fun k_ => k_ = gb4) := (by rw [hw_]; exact Kept.setCell (Kept.refl w15 (fun k_ => k_ = gb4)) (.inl rfl) (.bool false)); have hge_ : w.heap.size ≤ gb4 := (by have o_ := HORD.out; (try unfold In at *); (try show _ ≠ _); omega); have hbn_ : Below w.heap.size w w16 := (by rw [hw_]; exact aE (HB.out) hge_); have hbk_ : w16.heap[gb4]? = some (.cells #[.slice A8 ((fallSecs l0_0 l0_1 0 l0_1.length)).length c8, .slice none 0 0, .int .i64 a0_2, .bool false] 25 (0, 0)) := (by rw [hw_]; exact bE (cs := #[.slice A8 ((fallSecs l0_0 l0_1 0 l0_1.length)).length c8, .slice none 0 0, .int .i64 a0_2, .bool a0_3]) (cs' := #[.slice A8 ((fallSecs l0_0 l0_1 0 l0_1.length)).length c8, .slice none 0 0, .int .i64 a0_2, .bool false]) (BK4.out) 3 _ rfl); have hsz_ : hi8 ≤ w16.heap.size := Nat.le_trans HT.out hkp.1; have n0_ := aA.mk (Kd.bF HF0_0.out hkp (fun k_ h1_ h2_ => by have o_ := HORD.out; have t_ := HT.out; (try simp only [In2, Up, In, Ex, Exb] at h1_ h2_); omega)); have n1_ := aA.mk (Kd.bF HF0_1.out hkp (fun k_ h1_ h2_ => by have o_ := HORD.out; have t_ := HT.out; (try simp only [In2, Up, In, Ex, Exb] at h1_ h2_); omega)); have n2_ := aA.mk (Kd.bF HF3_1.out hkp (fun k_ h1_ h2_ => by have o_ := HORD.out; have t_ := HT.out; (try simp only [In2, Up, In, Ex, Exb] at h1_ h2_); omega)); have n3_ := aA.mk (Kd.S_kept HS3_1.out hkp (fun k_ h1_ h2_ => by have o_ := HORD.out; have t_ := HT.out; (try simp only [In2, Up, In, Ex, Exb] at h1_ h2_); omega)); have n4_ := aA.mk (Kd.bF HF8.out hkp (fun k_ h1_ h2_ => by have o_ := HORD.out; have t_ := HT.out; (try simp only [In2, Up, In, Ex, Exb] at h1_ h2_); omega)); have n5_ := aA.mk (Kd.S_kept HS8.out hkp (fun k_ h1_ h2_ => by have o_ := HORD.out; have t_ := HT.out; (try simp only [In2, Up, In, Ex, Exb] at h1_ h2_); omega)); have n6_ := aA.mk (bG BK1.out hkp (fun h2_ => by have o_ := HORD.out; have t_ := HT.out; (try simp only [In2, Up, In, Ex, Exb] at h2_); omega)); have n7_ := aA.mk (bG BK2.out hkp (fun h2_ => by have o_ := HORD.out; have t_ := HT.out; (try simp only [In2, Up, In, Ex, Exb] at h2_); omega)); have n8_ := aA.mk (hbn_); have n9_ := aA.mk (hbk_); have n10_ := aA.mk (hsz_); (try clear HF0_0); (try clear HF0_1); (try clear HF3_1); (try clear HS3_1); (try clear HF8); (try clear HS8); (try clear BK1); (try clear BK2); (try clear HB); (try clear BK4); (try clear HT); have HF0_0 := n0_; have HF0_1 := n1_; have HF3_1 := n2_; have HS3_1 := n3_; have HF8 := n4_; have HS8 := n5_; have BK1 := n6_; have BK2 := n7_; have HB := n8_; have BK4 := n9_; have HT := n10_; clear n0_ n1_ n2_ n3_ n4_ n5_ n6_ n7_ n8_ n9_ n10_; clear hw_ hkp hge_ hbn_ hbk_ hsz_; have hzgb1_0_16 : w16.cell? ⟨gb1, 0, none⟩ = some (.slice A0_0 l0_0.length c0_0) := (aD BK1.out 0).trans rfl; have hygb1_0_16 := aC BK1.out 0; have hzgb1_1_16 : w16.cell? ⟨gb1, 1, none⟩ = some (.slice A0_1 l0_1.length c0_1) := (aD BK1.out 1).trans rfl; have hygb1_1_16 := aC BK1.out 1; have hzgb1_2_16 : w16.cell? ⟨gb1, 2, none⟩ = some (.int .i64 a0_2) := (aD BK1.out 2).trans rfl; have hygb1_2_16 := aC BK1.out 2; have hzgb1_3_16 : w16.cell? ⟨gb1, 3, none⟩ = some (.bool a0_3) := (aD BK1.out 3).trans rfl; have hygb1_3_16 := aC BK1.out 3; have hzgb2_0_16 : w16.cell? ⟨gb2, 0, none⟩ = some (.slice none 0 0) := (aD BK2.out 0).trans rfl; have hygb2_0_16 := aC BK2.out 0; have hzgb2_1_16 : w16.cell? ⟨gb2, 1, none⟩ = some (.slice none 0 0) := (aD BK2.out 1).trans rfl; have hygb2_1_16 := aC BK2.out 1; have hzgb2_2_16 : w16.cell? ⟨gb2, 2, none⟩ = some (.int .i64 0) := (aD BK2.out 2).trans rfl; have hygb2_2_16 := aC BK2.out 2; have hzgb2_3_16 : w16.cell? ⟨gb2, 3, none⟩ = some (.bool false) := (aD BK2.out 3).trans rfl; have hygb2_3_16 := aC BK2.out 3; have hzgb4_0_16 : w16.cell? ⟨gb4, 0, none⟩ = some (.slice A8 ((fallSecs l0_0 l0_1 0 l0_1.length)).length c8) := (aD BK4.out 0).trans rfl; have hygb4_0_16 := aC BK4.out 0; have hzgb4_1_16 : w16.cell? ⟨gb4, 1, none⟩ = some (.slice none 0 0) := (aD BK4.out 1).trans rfl; have hygb4_1_16 := aC BK4.out 1; have hzgb4_2_16 : w16.cell? ⟨gb4, 2, none⟩ = some (.int .i64 a0_2) := (aD BK4.out 2).trans rfl; have hygb4_2_16 := aC BK4.out 2; have hzgb4_3_16 : w16.cell? ⟨gb4, 3, none⟩ = some (.bool false) := (aD BK4.out 3).trans rfl; have hygb4_3_16 := aC BK4.out 3) | ((with_reducible refine gate_store (t := 3) (p := 46) rfl ?_); refine store_event (t := 3) (p := 46) (v := ?vo_w17) (w1 := (w16.setCell ⟨gb4, 2, none⟩ (.int .i64 ((-1))))) ?hg ?ho ?hn ?hr ?_; (case ho => rfl); (case hg => rfl); (case hn => rfl); (case hr => first | (go_simp; done) | (go_simp; rfl)); intro w17 hw_; have hkp : Kept w16 w17 (fun k_ => k_ = gb4) := (by rw [hw_]; exact Kept.setCell (Kept.refl w16 (fun k_ => k_ = gb4)) (.inl rfl) (.int .i64 ((-1)))); have hge_ : w.heap.size ≤ gb4 := (by have o_ := HORD.out; (try unfold In at *); (try show _ ≠ _); omega); have hbn_ : Below w.heap.size w w17 := (by rw [hw_]; exact aE (HB.out) hge_); have hbk_ : w17.heap[gb4]? = some (.cells #[.slice A8 ((fallSecs l0_0 l0_1 0 l0_1.length)).length c8, .slice none 0 0, .int .i64 ((-1)), .bool false] 25 (0, 0)) := (by rw [hw_]; exact bE (cs := #[.slice A8 ((fallSecs l0_0 l0_1 0 l0_1.length)).length c8, .slice none 0 0, .int .i64 a0_2, .bool false]) (cs' := #[.slice A8 ((fallSecs l0_0 l0_1 0 l0_1.length)).length c8, .slice none 0 0, .int .i64 ((-1)), .bool false]) (BK4.out) 2 _ rfl); have hsz_ : hi8 ≤ w17.heap.size := Nat.le_trans HT.out hkp.1; have n0_ := aA.mk (Kd.bF HF0_0.out hkp (fun k_ h1_ h2_ => by have o_ := HORD.out; have t_ := HT.out; (try simp only [In2, Up, In, Ex, Exb] at h1_ h2_); omega)); have n1_ := aA.mk (Kd.bF HF0_1.out hkp (fun k_ h1_ h2_ => by have o_ := HORD.out; have t_ := HT.out; (try simp only [In2, Up, In, Ex, Exb] at h1_ h2_); omega)); have n2_ := aA.mk (Kd.bF HF3_1.out hkp (fun k_ h1_ h2_ => by have o_ := HORD.out; have t_ := HT.out; (try simp only [In2, Up, In, Ex, Exb] at h1_ h2_); omega)); have n3_ := aA.mk (Kd.S_kept HS3_1.out hkp (fun k_ h1_ h2_ => by have o_ := HORD.out; have t_ := HT.out; (try simp only [In2, Up, In, Ex, Exb] at h1_ h2_); omega)); have n4_ := aA.mk (Kd.bF HF8.out hkp (fun k_ h1_ h2_ => by have o_ := HORD.out; have t_ := HT.out; (try simp only [In2, Up, In, Ex, Exb] at h1_ h2_); omega)); have n5_ := aA.mk (Kd.S_kept HS8.out hkp (fun k_ h1_ h2_ => by have o_ := HORD.out; have t_ := HT.out; (try simp only [In2, Up, In, Ex, Exb] at h1_ h2_); omega)); have n6_ := aA.mk (bG BK1.out hkp (fun h2_ => by have o_ := HORD.out; have t_ := HT.out; (try simp only [In2, Up, In, Ex, Exb] at h2_); omega)); have n7_ := aA.mk (bG BK2.out hkp (fun h2_ => by have o_ := HORD.out; have t_ := HT.out; (try simp only [In2, Up, In, Ex, Exb] at h2_); omega)); have n8_ := aA.mk (hbn_); have n9_ := aA.mk (hbk_); have n10_ := aA.mk (hsz_); (try clear HF0_0); (try clear HF0_1); (try clear HF3_1); (try clear HS3_1); (try clear HF8); (try clear HS8); (try clear BK1); (try clear BK2); (try clear HB); (try clear BK4); (try clear HT); have HF0_0 := n0_; have HF0_1 := n1_; have HF3_1 := n2_; have HS3_1 := n3_; have HF8 := n4_; have HS8 := n5_; have BK1 := n6_; have BK2 := n7_; have HB := n8_; have BK4 := n9_; have HT := n10_; clear n0_ n1_ n2_ n3_ n4_ n5_ n6_ n7_ n8_ n9_ n10_; clear hw_ hkp hge_ hbn_ hbk_ hsz_; have hzgb1_0_17 : w17.cell? ⟨gb1, 0, none⟩ = some (.slice A0_0 l0_0.length c0_0) := (aD BK1.out 0).trans rfl; have hygb1_0_17 := aC BK1.out 0; have hzgb1_1_17 : w17.cell? ⟨gb1, 1, none⟩ = some (.slice A0_1 l0_1.length c0_1) := (aD BK1.out 1).trans rfl; have hygb1_1_17 := aC BK1.out 1; have hzgb1_2_17 : w17.cell? ⟨gb1, 2, none⟩ = some (.int .i64 a0_2) := (aD BK1.out 2).trans rfl; have hygb1_2_17 := aC BK1.out 2; have hzgb1_3_17 : w17.cell? ⟨gb1, 3, none⟩ = some (.bool a0_3) := (aD BK1.out 3).trans rfl; have hygb1_3_17 := aC BK1.out 3; have hzgb2_0_17 : w17.cell? ⟨gb2, 0, none⟩ = some (.slice none 0 0) := (aD BK2.out 0).trans rfl; have hygb2_0_17 := aC BK2.out 0; have hzgb2_1_17 : w17.cell? ⟨gb2, 1, none⟩ = some (.slice none 0 0) := (aD BK2.out 1).trans rfl; have hygb2_1_17 := aC BK2.out 1; have hzgb2_2_17 : w17.cell? ⟨gb2, 2, none⟩ = some (.int .i64 0) := (aD BK2.out 2).trans rfl; have hygb2_2_17 := aC BK2.out 2; have hzgb2_3_17 : w17.cell? ⟨gb2, 3, none⟩ = some (.bool false) := (aD BK2.out 3).trans rfl; have hygb2_3_17 := aC BK2.out 3; have hzgb4_0_17 : w17.cell? ⟨gb4, 0, none⟩ = some (.slice A8 ((fallSecs l0_0 l0_1 0 l0_1.length)).length c8) := (aD BK4.out 0).trans rfl; have hygb4_0_17 := aC BK4.out 0; have hzgb4_1_17 : w17.cell? ⟨gb4, 1, none⟩ = some (.slice none 0 0) := (aD BK4.out 1).trans rfl; have hygb4_1_17 := aC BK4.out 1; have hzgb4_2_17 : w17.cell? ⟨gb4, 2, none⟩ = some (.int .i64 ((-1))) := (aD BK4.out 2).trans rfl; have hygb4_2_17 := aC BK4.out 2; have hzgb4_3_17 : w17.cell? ⟨gb4, 3, none⟩ = some (.bool false) := (aD BK4.out 3).trans rfl; have hygb4_3_17 := aC BK4.out 3) | ((with_reducible refine gate_store (t := 25) (p := 4) rfl ?_); refine store_event (t := 25) (p := 4) (v := ?vo_w18) (w1 := ((((w17.setCell ⟨gb2, 0, none⟩ (.slice A8 ((fallSecs l0_0 l0_1 0 l0_1.length)).length c8)).setCell ⟨gb2, 1, none⟩ (.slice none 0 0)).setCell ⟨gb2, 2, none⟩ (.int .i64 ((-1)))).setCell ⟨gb2, 3, none⟩ (.bool false))) ?hg ?ho ?hn ?hr ?_; (case ho => rfl); (case hg => rfl); (case hn => rfl); (case hr => first | (go_simp; done) | (go_simp; rfl)); intro w18 hw_; have hkp : Kept w17 w18 (fun k_ => k_ = gb2) := (by rw [hw_]; exact Kept.setCell (Kept.setCell (Kept.setCell (Kept.setCell (Kept.refl w17 (fun k_ => k_ = gb2)) (.inl rfl) (.slice A8 ((fallSecs l0_0 l0_1 0 l0_1.length)).length c8)) (.inl rfl) (.slice none 0 0)) (.inl rfl) (.int .i64 ((-1)))) (.inl rfl) (.bool false)); have hge_ : w.heap.size ≤ gb2 := (by have o_ := HORD.out; (try unfold In at *); (try show _ ≠ _); omega); have hbn_ : Below w.heap.size w w18 := (by rw [hw_]; exact aE (aE (aE (aE (HB.out) hge_) hge_) hge_) hge_); have hbk_ : w18.heap[gb2]? = some (.cells #[.slice A8 ((fallSecs l0_0 l0_1 0 l0_1.length)).length c8, .slice none 0 0, .int .i64 ((-1)), .bool false] 25 (0, 0)) := (by rw [hw_]; exact bE (cs := #[.slice A8 ((fallSecs l0_0 l0_1 0 l0_1.length)).length c8, .slice none 0 0, .int .i64 ((-1)), .bool false]) (cs' := #[.slice A8 ((fallSecs l0_0 l0_1 0 l0_1.length)).length c8, .slice none 0 0, .int .i64 ((-1)), .bool false]) (bE (cs := #[.slice A8 ((fallSecs l0_0 l0_1 0 l0_1.length)).length c8, .slice none 0 0, .int .i64 0, .bool false]) (cs' := #[.slice A8 ((fallSecs l0_0 l0_1 0 l0_1.length)).length c8, .slice none 0 0, .int .i64 ((-1)), .bool false]) (bE (cs := #[.slice A8 ((fallSecs l0_0 l0_1 0 l0_1.length)).length c8, .slice none 0 0, .int .i64 0, .bool false]) (cs' := #[.slice A8 ((fallSecs l0_0 l0_1 0 l0_1.length)).length c8, .slice none 0 0, .int .i64 0, .bool false]) (bE (cs := #[.slice none 0 0, .slice none 0 0, .int .i64 0, .bool false]) (cs' := #[.slice A8 ((fallSecs l0_0 l0_1 0 l0_1.length)).length c8, .slice none 0 0, .int .i64 0, .bool false]) (BK2.out) 0 _ rfl) 1 _ rfl) 2 _ rfl) 3 _ rfl); have hsz_ : hi8 ≤ w18.heap.size := Nat.le_trans HT.out hkp.1; have n0_ := aA.mk (Kd.bF HF0_0.out hkp (fun k_ h1_ h2_ => by have o_ := HORD.out; have t_ := HT.out; (try simp only [In2, Up, In, Ex, Exb] at h1_ h2_); omega)); have n1_ := aA.mk (Kd.bF HF0_1.out hkp (fun k_ h1_ h2_ => by have o_ := HORD.out; have t_ := HT.out; (try simp only [In2, Up, In, Ex, Exb] at h1_ h2_); omega)); have n2_ := aA.mk (Kd.bF HF3_1.out hkp (fun k_ h1_ h2_ => by have o_ := HORD.out; have t_ := HT.out; (try simp only [In2, Up, In, Ex, Exb] at h1_ h2_); omega)); have n3_ := aA.mk (Kd.S_kept HS3_1.out hkp (fun k_ h1_ h2_ => by have o_ := HORD.out; have t_ := HT.out; (try simp only [In2, Up, In, Ex, Exb] at h1_ h2_); omega)); have n4_ := aA.mk (Kd.bF HF8.out hkp (fun k_ h1_ h2_ => by have o_ := HORD.out; have t_ := HT.out; (try simp only [In2, Up, In, Ex, Exb] at h1_ h2_); omega)); have n5_ := aA.mk (Kd.S_kept HS8.out hkp (fun k_ h1_ h2_ => by have o_ := HORD.out; have t_ := HT.out; (try simp only [In2, Up, In, Ex, Exb] at h1_ h2_); omega)); have n6_ := aA.mk (bG BK1.out hkp (fun h2_ => by have o_ := HORD.out; have t_ := HT.out; (try simp only [In2, Up, In, Ex, Exb] at h2_); omega)); have n7_ := aA.mk (bG BK4.out hkp (fun h2_ => by have o_ := HORD.out; have t_ := HT.out; (try simp only [In2, Up, In, Ex, Exb] at h2_); omega)); have n8_ := aA.mk (hbn_); have n9_ := aA.mk (hbk_); have n10_ := aA.mk (hsz_); (try clear HF0_0); (try clear HF0_1); (try clear HF3_1); (try clear HS3_1); (try clear HF8); (try clear HS8); (try clear BK1); (try clear BK4); (try clear HB); (try clear BK2); (try clear HT); have HF0_0 := n0_; have HF0_1 := n1_; have HF3_1 := n2_; have HS3_1 := n3_; have HF8 := n4_; have HS8 := n5_; have BK1 := n6_; have BK4 := n7_; have HB := n8_; have BK2 := n9_; have HT := n10_; clear n0_ n1_ n2_ n3_ n4_ n5_ n6_ n7_ n8_ n9_ n10_; clear hw_ hkp hge_ hbn_ hbk_ hsz_; have hzgb1_0_18 : w18.cell? ⟨gb1, 0, none⟩ = some (.slice A0_0 l0_0.length c0_0) := (aD BK1.out 0).trans rfl; have hygb1_0_18 := aC BK1.out 0; have hzgb1_1_18 : w18.cell? ⟨gb1, 1, none⟩ = some (.slice A0_1 l0_1.length c0_1) := (aD BK1.out 1).trans rfl; have hygb1_1_18 := aC BK1.out 1; have hzgb1_2_18 : w18.cell? ⟨gb1, 2, none⟩ = some (.int .i64 a0_2) := (aD BK1.out 2).trans rfl; have hygb1_2_18 := aC BK1.out 2; have hzgb1_3_18 : w18.cell? ⟨gb1, 3, none⟩ = some (.bool a0_3) := (aD BK1.out 3).trans rfl; have hygb1_3_18 := aC BK1.out 3; have hzgb2_0_18 : w18.cell? ⟨gb2, 0, none⟩ = some (.slice A8 ((fallSecs l0_0 l0_1 0 l0_1.length)).length c8) := (aD BK2.out 0).trans rfl; have hygb2_0_18 := aC BK2.out 0; have hzgb2_1_18 : w18.cell? ⟨gb2, 1, none⟩ = some (.slice none 0 0) := (aD BK2.out 1).trans rfl; have hygb2_1_18 := aC BK2.out 1; have hzgb2_2_18 : w18.cell? ⟨gb2, 2, none⟩ = some (.int .i64 ((-1))) := (aD BK2.out 2).trans rfl; have hygb2_2_18 := aC BK2.out 2; have hzgb2_3_18 : w18.cell? ⟨gb2, 3, none⟩ = some (.bool false) := (aD BK2.out 3).trans rfl; have hygb2_3_18 := aC BK2.out 3; have hzgb4_0_18 : w18.cell? ⟨gb4, 0, none⟩ = some (.slice A8 ((fallSecs l0_0 l0_1 0 l0_1.length)).length c8) := (aD BK4.out 0).trans rfl; have hygb4_0_18 := aC BK4.out 0; have hzgb4_1_18 : w18.cell? ⟨gb4, 1, none⟩ = some (.slice none 0 0) := (aD BK4.out 1).trans rfl; have hygb4_1_18 := aC BK4.out 1; have hzgb4_2_18 : w18.cell? ⟨gb4, 2, none⟩ = some (.int .i64 ((-1))) := (aD BK4.out 2).trans rfl; have hygb4_2_18 := aC BK4.out 2; have hzgb4_3_18 : w18.cell? ⟨gb4, 3, none⟩ = some (.bool false) := (aD BK4.out 3).trans rfl; have hygb4_3_18 := aC BK4.out 3))
 refine bodyPost_ret (fn := Try.f32) (P := Try.prog) (results_cell_row rfl _ _ gb2 25 #[.slice A8 ((fallSecs l0_0 l0_1 0 l0_1.length)).length c8, .slice none 0 0, .int .i64 ((-1)), .bool false] (0, 0) _ rfl BK2.out Try.underlying25 rfl (by kernel_rfl)) rfl ?_
 first | exact ⟨_, _, w18.heap.size, rfl, HB.out.size, Nat.le_refl _, Kd.S_mono (Kd.S_lower HS8.out (by have o_ := HORD.out; have t_ := HT.out; omega)) (fun k_ hk_ => by have o_ := HORD.out; have t_ := HT.out; (try simp only [In2, Up, In] at hk_ ⊢); omega), Kd.S_nil _ _ _ _ _, HB.out⟩ | exact ⟨_, _, rfl, w18.heap.size, HB.out.size, Nat.le_refl _, Kd.S_mono (Kd.S_lower HS8.out (by have o_ := HORD.out; have t_ := HT.out; omega)) (fun k_ hk_ => by have o_ := HORD.out; have t_ := HT.out; (try simp only [In2, Up, In] at hk_ ⊢); omega), Kd.S_nil _ _ _ _ _, HB.out⟩
def impl_FallDevS.f (l0_0 : List (List Int)) (l0_1 : List (S50)) (a0_2 : Int) (a0_3 : Bool) (a1 : Int) : Option (List (List Int) × List (S50) × Int × Bool) := if okDevB l0_0 l0_1 = true then some (fallDev l0_0 l0_1 a0_2 a0_3 a1) else none
theorem impl_FallDevS.calls (P0_0_ : Nat → Prop) (A0_0 : Option Addr) (c0_0 : Nat) (l0_0 : List (List Int)) (P0_1_ : Nat → Prop) (A0_1 : Option Addr) (c0_1 : Nat) (l0_1 : List (S50)) (a0_2 : Int) (a0_3 : Bool) (a1 : Int) (r1 : List (List Int)) (r2 : List (S50)) (r3 : Int) (r4 : Bool) (w : World) (hs0_0 : Kd.V (Kd.slice 5 (Kd.int .u8)) 37 w w.heap.size (fun k_ => P0_0_ k_) (.slice A0_0 l0_0.length c0_0) l0_0) (hs0_1 : Kd.V k50 50 w w.heap.size (fun k_ => P0_1_ k_) (.slice A0_1 l0_1.length c0_1) l0_1) (h : impl_FallDevS.f l0_0 l0_1 a0_2 a0_3 a1 = some (r1, r2, r3, r4)) :
  Calls Try.prog 32 #[.agg #[.slice A0_0 l0_0.length c0_0, .slice A0_1 l0_1.length c0_1, .int .i64 a0_2, .bool a0_3], .int .i64 a1] w fun e w' => ∃ v0_ v1_ : Value, ∃ m_ : Nat, e = .returned (.agg #[v0_, v1_, .int .i64 r3, .bool r4]) ∧ w.heap.size ≤ m_ ∧ m_ ≤ w'.heap.size ∧ Kd.S (Kd.slice 5 (Kd.int .u8)) 37 w' w.heap.size (In w.heap.size m_) v0_ r1 ∧ Kd.S k50 50 w' w.heap.size (In m_ w'.heap.size) v1_ r2 ∧ Below w.heap.size w w' := by
 obtain ⟨_, hc0_, hf0_⟩ := Kd.V_at hs0_0
 obtain ⟨_, hc1_, hf1_⟩ := Kd.V_at hs0_1
 replace hf0_ := Kd.F_mono (ok' := In 0 w.heap.size) (Kd.F_bound hf0_) (fun k hk => ⟨Nat.zero_le k, hk.2⟩)
 replace hf1_ := Kd.F_mono (ok' := In 0 w.heap.size) (Kd.F_bound hf1_) (fun k hk => ⟨Nat.zero_le k, hk.2⟩)
 unfold impl_FallDevS.f at h
 split at h
 ·rename_i hok
  unfold okDevB at hok
  simp only [Bool.and_eq_true, decide_eq_true_eq] at hok
  obtain ⟨hok0, hok1⟩ := hok
  injection h with h
  unfold fallDev at h
  by_cases hdo : devOkB l0_0 l0_1 a0_2 = true
  ·rw [if_pos hdo] at h
   simp only [Prod.mk.injEq] at h
   obtain ⟨rfl, rfl, rfl, rfl⟩ := h
   unfold keepOf
   by_cases hwi : 0 ≤ a1 ∧ a1 ≤ 1073741823
   ·rw [if_pos hwi]
    exact walk_FallDev2 _ _ _ _ _ _ _ _ _ w hf0_ hc0_ hf1_ hc1_ hok0 hok1 hdo (decide_eq_true hwi)
   ·rw [if_neg hwi]
    exact walk_FallDev3 _ _ _ _ _ _ _ _ _ w hf0_ hc0_ hf1_ hc1_ hok0 hok1 hdo (decide_eq_false hwi)
  ·rw [if_neg hdo] at h
   simp only [Prod.mk.injEq] at h
   obtain ⟨rfl, rfl, rfl, rfl⟩ := h
   exact walk_FallDev1 _ _ _ _ _ _ _ _ _ w hf0_ hc0_ hf1_ hc1_ hok0 hok1 (by simpa using hdo)
 ·cases h
end Go.Proofs.Ytilhcaofpfeioaa.Law
