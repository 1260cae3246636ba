/- The law: the functions that it reaches, each with the proof that the machine's call comes to its answer, what they answer, and the law's row; each theorem says its conditions itself. -/
import Derived.Test.YtamjbjkbineafaaZFnExactTreePack1
namespace Go.Proofs.Ytamjbjkbineafaa.PFnExactTreePack
open Go.RowKit Go.Proofs.YtamjbjkbineafaaW.PrintWords Go.Proofs.YtamjbjkbineafaaW.PrintLast Go.Proofs.YtamjbjkbineafaaW.PrintMore
attribute [local go_sem] max2_int min2_int max_two min_two max_three min_three max_four min_four   -- for this text's walks alone
set_option linter.unusedVariables false
set_option linter.unusedSimpArgs false
mutual
def impl_SetPut.l0 : Nat → List (S38) → Bool → List (S38) → Int → Int → Int → Int → Int → Int → Int → Option ((List (S38)))
 | 0, _, _, _, _, _, _, _, _, _, _ => none
 | k + 1, x5, x6, x10, x11, x12, x319000, x319001, x319002, x319003, x319004 => if x12 < x11 then (if 0 ≤ x12 then (if x12 < (x10.length : Int) then (if x6 = true then (impl_SetPut.j1 k x5 x6 x10 x11 x12 false x319000 x319001 x319002 x319003 x319004 ((rd_T38 x10 x12).f0) ((rd_T38 x10 x12).f1) ((rd_T38 x10 x12).f2) ((rd_T38 x10 x12).f3) ((rd_T38 x10 x12).f4)) else ((impl_LessKey.f ((rd_T38 x10 x12).f0) ((rd_T38 x10 x12).f1) ((rd_T38 x10 x12).f2) ((rd_T38 x10 x12).f3) ((rd_T38 x10 x12).f4) x319000 x319001 x319002 x319003 x319004).bind fun t327 => (impl_SetPut.j1 k x5 x6 x10 x11 x12 (!t327) x319000 x319001 x319002 x319003 x319004 ((rd_T38 x10 x12).f0) ((rd_T38 x10 x12).f1) ((rd_T38 x10 x12).f2) ((rd_T38 x10 x12).f3) ((rd_T38 x10 x12).f4)))) else (none)) else (none)) else (if x6 = true then (some x5) else (if x5.length < 3518437208883 then (some (x5 ++ [(⟨x319000, x319001, x319002, x319003, x319004⟩ : S38)])) else (none)))
def impl_SetPut.j1 : Nat → List (S38) → Bool → List (S38) → Int → Int → Bool → Int → Int → Int → Int → Int → Int → Int → Int → Int → Int → Option ((List (S38)))
 | 0, _, _, _, _, _, _, _, _, _, _, _, _, _, _, _, _ => none
 | k + 1, x5, x6, x10, x11, x12, x23, x319000, x319001, x319002, x319003, x319004, x327000, x327001, x327002, x327003, x327004 => if x23 = true then (if x5.length < 3518437208883 then ((some (x5 ++ [(⟨x319000, x319001, x319002, x319003, x319004⟩ : S38)] : List (S38))).bind fun y328 => ((impl_SameSpot.f x327000 x327001 x327002 x327003 x327004 x319000 x319001 x319002 x319003 x319004).bind fun t331 => (if t331 = true then (impl_SetPut.l0 k y328 true x10 x11 (wrap64 (x12 + 1)) x319000 x319001 x319002 x319003 x319004) else (if y328.length < 3518437208883 then (impl_SetPut.l0 k (y328 ++ [(⟨x327000, x327001, x327002, x327003, x327004⟩ : S38)]) true x10 x11 (wrap64 (x12 + 1)) x319000 x319001 x319002 x319003 x319004) else (none))))) else (none)) else ((impl_SameSpot.f x327000 x327001 x327002 x327003 x327004 x319000 x319001 x319002 x319003 x319004).bind fun t335 => (if t335 = true then (impl_SetPut.l0 k x5 x6 x10 x11 (wrap64 (x12 + 1)) x319000 x319001 x319002 x319003 x319004) else (if x5.length < 3518437208883 then (impl_SetPut.l0 k (x5 ++ [(⟨x327000, x327001, x327002, x327003, x327004⟩ : S38)]) x6 x10 x11 (wrap64 (x12 + 1)) x319000 x319001 x319002 x319003 x319004) else (none))))
end
def impl_SetPut.f (k : Nat) (l0 : List (S38)) (a1_0 : Int) (a1_1 : Int) (a1_2 : Int) (a1_3 : Int) (a1_4 : Int) : Option ((List (S38))) := impl_SetPut.l0 k (([] : List (S38))) false l0 (l0.length : Int) 0 a1_0 a1_1 a1_2 a1_3 a1_4
set_option maxHeartbeats 8000000 in
set_option maxRecDepth 100000 in
theorem impl_SetPut.calls (k : Nat) (A0 : Option Addr) (c0 : Nat) (l0 : List (S38)) (a1_0 : Int) (a1_1 : Int) (a1_2 : Int) (a1_3 : Int) (a1_4 : Int) (r : List (S38)) (w : World) (hr0 : Kd.C k38 w A0 l0.length l0) (hc0 : l0.length ≤ c0) (h : impl_SetPut.f k l0 a1_0 a1_1 a1_2 a1_3 a1_4 = some r) :
  Calls Try.prog 90 #[.slice A0 l0.length c0, .agg #[.int .i64 a1_0, .int .i64 a1_1, .int .i64 a1_2, .int .i64 a1_3, .int .i64 a1_4]] w fun e w' => ∃ v0_ : Value, e = .returned (v0_) ∧ Kd.R k38 38 w' w.heap.size (fun _ => True) v0_ r ∧ Below w.heap.size w w' := by
 have hu38 := Try.underlying38
 have HR0 := aA.mk hr0
 have HC0 := aA.mk hc0
 clear hr0 hc0
 have HB := aA.mk (Below.refl w.heap.size w)
 have H : (impl_SetPut.l0 k (([] : List (S38))) false l0 (l0.length : Int) 0 a1_0 a1_1 a1_2 a1_3 a1_4) = some r := h
 clear h
 obtain ⟨y319, hy319⟩ : ∃ y_ : List (S38), y_ = (([] : List (S38))) := ⟨_, rfl⟩
 replace H : (impl_SetPut.l0 k y319 false l0 (l0.length : Int) 0 a1_0 a1_1 a1_2 a1_3 a1_4) = some r := by first | (rw [hy319]; with_reducible exact H) | (have H2_ := (Option.bind_some _ _).symm.trans H; rw [hy319]; with_reducible exact H2_) | (have H2_ := (Option.bind_some _ _).symm.trans H; with_reducible exact H2_) | with_reducible exact H | (rw [hy319]; exact H) | exact H
 have Ny319 := aA.mk hy319
 clear hy319
 have H' := aA.mk H
 clear H
 go_enter Try.func90, Try.ntmps90
 go_wp2_with (first | ((with_reducible refine aW (N := 3) rfl ?_); refine aX ?hg (N := 3) ?hd (cs := #[.int .i64 a1_0, .int .i64 a1_1, .int .i64 a1_2, .int .i64 a1_3, .int .i64 a1_4]) (t := 38) ?hr ?_; (case hd => rfl); (case hg => rfl); (case hr => first | (go_simp; done) | (go_simp; rfl)); intro gb318 hg w3 hbox hb; have n0_ := aA.mk (aU (by repeat (first | (with_reducible first | exact HB.out | apply aH | apply aC | apply aG) | exact HB.out)) hb); have n1_ := aA.mk (hbox); have n2_ := aA.mk ((by rw [hg]; exact (aT (by repeat (first | (with_reducible first | exact HB.out | apply aH | apply aC | apply aG) | exact HB.out))) : w.heap.size ≤ gb318)); have n3_ := aA.mk ((by rw [hg]; exact (aT (by repeat (first | (with_reducible first | exact HB.out | apply aH | apply aC | apply aG) | exact HB.out))) : w.heap.size ≤ gb318)); clear HB; have HB := n0_; have BK318 := n1_; have GW318 := n2_; have GE318 := n3_; clear n0_ n1_ n2_ n3_; clear hb hbox hg) | ((with_reducible refine aW (N := 9) rfl ?_); refine Kd.R_lit k38 _ 38 ?hg (N := 9) ?hd (xs := ([] : List (S38))) (inner := []) (ok := fun _ => True) (okp := fun _ => True) ?hr ?hp (fun _ hk => hk) trivial (Below.refl _ _) (Nat.le_refl _) (by simp) ?_; (case hd => rfl); (case hg => rfl); (case hr => first | (go_simp; done) | (go_simp; rfl)); (case hp => exact (Reps.none _ _)); intro v320 w4 ho5 hb hg_ hnew_; clear hg_ hnew_; (first | rw [← Ny319.out] at ho5 | (simp only [Int.reduceToNat] at ho5; rw [← Ny319.out] at ho5)); have n0_ := aA.mk (Kd.R_lower (Kd.R_newB ho5 (g := gb318) (o := .cells #[.int .i64 a1_0, .int .i64 a1_1, .int .i64 a1_2, .int .i64 a1_3, .int .i64 a1_4] 38 (0, 0)) (by (with_reducible repeat (first | refine aN ?_ _ | refine aQ ?_ | refine aM ?_ _)); exact BK318.out)) (aT (by repeat (first | (with_reducible first | exact HB.out | apply aH | apply aC | apply aG | refine aJ ?_ GE318.out) | exact HB.out)))); have n1_ := aA.mk (aV (g := gb318) (o := .cells #[.int .i64 a1_0, .int .i64 a1_1, .int .i64 a1_2, .int .i64 a1_3, .int .i64 a1_4] 38 (0, 0)) (by (with_reducible repeat (first | refine aN ?_ _ | refine aQ ?_ | refine aM ?_ _)); exact BK318.out) hb); have n2_ := aA.mk (aU (by repeat (first | (with_reducible first | exact HB.out | apply aH | apply aC | apply aG | refine aJ ?_ GE318.out) | exact HB.out)) hb); clear BK318; clear HB; have HO321 := n0_; have BK318 := n1_; have HB := n2_; clear n0_ n1_ n2_; clear hb ho5))
 go_loopg [5, 6, 12] k (fun kq v5 v6 v12 w' => ∃ (x5_1 : List (S38)) (x6_1 : Bool) (x12_1 : Int), v6 = .bool x6_1 ∧ v12 = .int .i64 x12_1 ∧ aA (impl_SetPut.l0 kq x5_1 x6_1 l0 (l0.length : Int) x12_1 a1_0 a1_1 a1_2 a1_3 a1_4 = some r) ∧ aA (kq ≤ k) ∧ aA (Kd.R k38 38 w' w.heap.size (fun k_ => k_ ≠ gb318) v5 x5_1) ∧ aA (w'.heap[gb318]? = some (.cells #[.int .i64 a1_0, .int .i64 a1_1, .int .i64 a1_2, .int .i64 a1_3, .int .i64 a1_4] 38 (0, 0))) ∧ aA (Below w.heap.size w w'))
 case atStart => exact ⟨(y319), (false), (0), (by first | rfl | (simp; done) | (simp [*]; done)), (by first | rfl | (simp; done) | (simp [*]; done)), H', ⟨Nat.le_refl _⟩, ⟨by (with_reducible repeat (first | apply Kd.aY | apply Kd.aZ | apply Kd.bA)); exact Kd.bK HO321.out (fun _ hk => hk.2)⟩, ⟨by (with_reducible repeat (first | refine aN ?_ _ | refine aQ ?_ | refine aM ?_ _)); exact BK318.out⟩, ⟨by repeat (first | (with_reducible first | exact HB.out | apply aH | apply aC | apply aG | refine aJ ?_ GE318.out) | exact HB.out)⟩⟩
 case round =>
  clear H'
  try clear p2
  obtain ⟨x5_1, x6_1, x12_1, rfl, rfl, HA, HK1, HO_5, BK318, HB⟩ := hrel
  cases gk with
  | zero => exact absurd HA.out (by simp [impl_SetPut.l0])
  | succ k1 =>
   have H := HA.out
   clear HA
   simp only [impl_SetPut.l0] at H
   by_cases c6 : x12_1 < (l0.length : Int)
   ·rw [if_pos c6] at H
    have c6b0 : decide (x12_1 < (l0.length : Int)) = true := decide_eq_true c6
    clear c6
    by_cases c7 : 0 ≤ x12_1
    ·rw [if_pos c7] at H
     have c7b0 : decide (0 ≤ x12_1) = true := decide_eq_true c7
     clear c7
     by_cases c8 : x12_1 < (l0.length : Int)
     ·rw [if_pos c8] at H
      have c8b0 : decide (x12_1 < (l0.length : Int)) = true := decide_eq_true c8
      clear c8
      have HC9 := aA.mk H
      clear H
      have p325 : 0 ≤ (x12_1 : Int) := lE (by first | (with_reducible assumption) | assumption)
      have q325 : x12_1 < (l0.length : Int) := lE (by first | (with_reducible assumption) | assumption)
      obtain ⟨ad325, e325, hx325_0, hx325_1, hx325_2, hx325_3, hx325_4⟩ := at_T38 HR0.out x12_1 p325 q325
      cases e325
      replace hx325_0 := (HB.out.cell (lD w _ hx325_0)).trans hx325_0
      replace hx325_1 := (HB.out.cell (lD w _ hx325_1)).trans hx325_1
      replace hx325_2 := (HB.out.cell (lD w _ hx325_2)).trans hx325_2
      replace hx325_3 := (HB.out.cell (lD w _ hx325_3)).trans hx325_3
      replace hx325_4 := (HB.out.cell (lD w _ hx325_4)).trans hx325_4
      replace p325 := eq_true p325
      replace q325 := eq_true q325
      go_upto_region 6 with (first | ((with_reducible refine aW (N := 8) rfl ?_); refine aX ?hg (N := 8) ?hd (cs := #[.int .i64 0, .int .i64 0, .int .i64 0, .int .i64 0, .int .i64 0]) (t := 38) ?hr ?_; (case hd => rfl); (case hg => rfl); (case hr => first | (go_simp; done) | (go_simp; rfl)); intro gb326 hg w10 hbox hb; have n0_ := aA.mk (Kd.bU (Kd.R_elderB (by (with_reducible repeat (first | apply Kd.aY | apply Kd.aZ | apply Kd.bA)); exact HO_5.out) gb326 (Nat.le_of_eq hg.symm)) hb); have n1_ := aA.mk (aV (g := gb318) (o := .cells #[.int .i64 a1_0, .int .i64 a1_1, .int .i64 a1_2, .int .i64 a1_3, .int .i64 a1_4] 38 (0, 0)) (by (with_reducible repeat (first | refine aN ?_ _ | refine aQ ?_ | refine aM ?_ _)); exact BK318.out) hb); have n2_ := aA.mk (aU (by repeat (first | (with_reducible first | exact HB.out | apply aH | apply aC | apply aG | refine aJ ?_ GE318.out) | exact HB.out)) hb); have n3_ := aA.mk (hbox); have n4_ := aA.mk ((by rw [hg]; exact (aT (by repeat (first | (with_reducible first | exact HB.out | apply aH | apply aC | apply aG | refine aJ ?_ GE318.out) | exact HB.out))) : w.heap.size ≤ gb326)); have n5_ := aA.mk ((by rw [hg]; exact (aT (by repeat (first | (with_reducible first | exact HB.out | apply aH | apply aC | apply aG | refine aJ ?_ GE318.out) | exact HB.out))) : w.heap.size ≤ gb326)); have n6_ := aA.mk ((by rw [hg]; exact Nat.ne_of_lt (bF (g := gb318) (o := .cells #[.int .i64 a1_0, .int .i64 a1_1, .int .i64 a1_2, .int .i64 a1_3, .int .i64 a1_4] 38 (0, 0)) (by (with_reducible repeat (first | refine aN ?_ _ | refine aQ ?_ | refine aM ?_ _)); exact BK318.out)) : gb318 ≠ gb326)); have n7_ := aA.mk ((by rw [hg]; exact Nat.ne_of_gt (bF (g := gb318) (o := .cells #[.int .i64 a1_0, .int .i64 a1_1, .int .i64 a1_2, .int .i64 a1_3, .int .i64 a1_4] 38 (0, 0)) (by (with_reducible repeat (first | refine aN ?_ _ | refine aQ ?_ | refine aM ?_ _)); exact BK318.out)) : gb326 ≠ gb318)); clear HO_5; clear BK318; clear HB; have HO_5 := n0_; have BK318 := n1_; have HB := n2_; have BK326 := n3_; have GW326 := n4_; have GE326 := n5_; have NB318_326 := n6_; have NB326_318 := n7_; clear n0_ n1_ n2_ n3_ n4_ n5_ n6_ n7_; clear hb hbox hg; have hnb11 := NB326_318.out; have hnc11 := NB318_326.out; have hcz12_0 : w10.cell? ⟨gb326, 0, none⟩ = some (.int .i64 0) := (aE BK326.out 0).trans rfl; have hcz12_1 : w10.cell? ⟨gb326, 1, none⟩ = some (.int .i64 0) := (aE BK326.out 1).trans rfl; have hcz12_2 : w10.cell? ⟨gb326, 2, none⟩ = some (.int .i64 0) := (aE BK326.out 2).trans rfl; have hcz12_3 : w10.cell? ⟨gb326, 3, none⟩ = some (.int .i64 0) := (aE BK326.out 3).trans rfl; have hcz12_4 : w10.cell? ⟨gb326, 4, none⟩ = some (.int .i64 0) := (aE BK326.out 4).trans rfl; have hfz12_0 := aD BK326.out 0; have hfz12_1 := aD BK326.out 1; have hfz12_2 := aD BK326.out 2; have hfz12_3 := aD BK326.out 3; have hfz12_4 := aD BK326.out 4))
      (try simp only [Act.put, lA, lB, lC])
      go_cut [23] (fun v23 wc => ∃ (kq : Nat) (x23_8 : Bool), v23 = .bool x23_8 ∧ aA (impl_SetPut.j1 kq x5_1 x6_1 l0 (l0.length : Int) x12_1 x23_8 a1_0 a1_1 a1_2 a1_3 a1_4 ((rd_T38 l0 x12_1).f0) ((rd_T38 l0 x12_1).f1) ((rd_T38 l0 x12_1).f2) ((rd_T38 l0 x12_1).f3) ((rd_T38 l0 x12_1).f4) = some r) ∧ aA (kq ≤ k1) ∧ aA (Kd.R k38 38 wc w.heap.size (fun k_ => k_ ≠ gb318 ∧ k_ ≠ gb326) u5 x5_1) ∧ aA (wc.heap[gb318]? = some (.cells #[.int .i64 a1_0, .int .i64 a1_1, .int .i64 a1_2, .int .i64 a1_3, .int .i64 a1_4] 38 (0, 0))) ∧ aA (wc.heap[gb326]? = some (.cells #[.int .i64 ((rd_T38 l0 x12_1).f0), .int .i64 ((rd_T38 l0 x12_1).f1), .int .i64 ((rd_T38 l0 x12_1).f2), .int .i64 ((rd_T38 l0 x12_1).f3), .int .i64 ((rd_T38 l0 x12_1).f4)] 38 (0, 0))) ∧ aA (Below w.heap.size w wc))
      case first =>
       have H := HC9.out
       clear HC9
       by_cases c13 : x6_1 = true
       ·subst c13
        have H1 : (impl_SetPut.j1 k1 x5_1 true l0 (l0.length : Int) x12_1 false a1_0 a1_1 a1_2 a1_3 a1_4 ((rd_T38 l0 x12_1).f0) ((rd_T38 l0 x12_1).f1) ((rd_T38 l0 x12_1).f2) ((rd_T38 l0 x12_1).f3) ((rd_T38 l0 x12_1).f4)) = some r := by rw [if_pos rfl] at H; exact H
        clear H
        have H := H1
        clear H1
        have H' := aA.mk H
        clear H
        go_wp2
        go_meet
        case rel => exact ⟨_, (false), (by first | rfl | (simp; done) | (simp [*]; done)), H', ⟨by have := HK1.out; first | omega | exact Nat.le_refl _⟩, ⟨by (with_reducible repeat (first | apply Kd.aY | apply Kd.aZ | apply Kd.bA)); exact Kd.bK (Kd.R_far (p := ⟨gb326, 4, none⟩) (Kd.R_far (p := ⟨gb326, 3, none⟩) (Kd.R_far (p := ⟨gb326, 2, none⟩) (Kd.R_far (p := ⟨gb326, 1, none⟩) (Kd.R_far (p := ⟨gb326, 0, none⟩) (Kd.bK HO_5.out (fun k_ hk => (⟨hk, hk.2⟩ : _ ∧ k_ ≠ gb326))) (fun _ hk => hk.2) (.int .i64 ((rd_T38 l0 x12_1).f0))) (fun _ hk => hk.2) (.int .i64 ((rd_T38 l0 x12_1).f1))) (fun _ hk => hk.2) (.int .i64 ((rd_T38 l0 x12_1).f2))) (fun _ hk => hk.2) (.int .i64 ((rd_T38 l0 x12_1).f3))) (fun _ hk => hk.2) (.int .i64 ((rd_T38 l0 x12_1).f4))) (fun _ hk => ⟨hk.1.1, hk.1.2⟩)⟩, ⟨by (with_reducible repeat (first | refine aN ?_ _ | refine aQ ?_ | refine aM ?_ _)); refine blk_far ?_ NB318_326.out _; (with_reducible repeat (first | refine aN ?_ _ | refine aQ ?_ | refine aM ?_ _)); refine blk_far ?_ NB318_326.out _; (with_reducible repeat (first | refine aN ?_ _ | refine aQ ?_ | refine aM ?_ _)); refine blk_far ?_ NB318_326.out _; (with_reducible repeat (first | refine aN ?_ _ | refine aQ ?_ | refine aM ?_ _)); refine blk_far ?_ NB318_326.out _; (with_reducible repeat (first | refine aN ?_ _ | refine aQ ?_ | refine aM ?_ _)); refine blk_far ?_ NB318_326.out _; (with_reducible repeat (first | refine aN ?_ _ | refine aQ ?_ | refine aM ?_ _)); exact BK318.out⟩, ⟨by (with_reducible repeat (first | refine aN ?_ _ | refine aQ ?_ | refine aM ?_ _)); refine bG (cs := #[.int .i64 ((rd_T38 l0 x12_1).f0), .int .i64 ((rd_T38 l0 x12_1).f1), .int .i64 ((rd_T38 l0 x12_1).f2), .int .i64 ((rd_T38 l0 x12_1).f3), .int .i64 0]) ?_ 4 _ rfl; (with_reducible repeat (first | refine aN ?_ _ | refine aQ ?_ | refine aM ?_ _)); refine bG (cs := #[.int .i64 ((rd_T38 l0 x12_1).f0), .int .i64 ((rd_T38 l0 x12_1).f1), .int .i64 ((rd_T38 l0 x12_1).f2), .int .i64 0, .int .i64 0]) ?_ 3 _ rfl; (with_reducible repeat (first | refine aN ?_ _ | refine aQ ?_ | refine aM ?_ _)); refine bG (cs := #[.int .i64 ((rd_T38 l0 x12_1).f0), .int .i64 ((rd_T38 l0 x12_1).f1), .int .i64 0, .int .i64 0, .int .i64 0]) ?_ 2 _ rfl; (with_reducible repeat (first | refine aN ?_ _ | refine aQ ?_ | refine aM ?_ _)); refine bG (cs := #[.int .i64 ((rd_T38 l0 x12_1).f0), .int .i64 0, .int .i64 0, .int .i64 0, .int .i64 0]) ?_ 1 _ rfl; (with_reducible repeat (first | refine aN ?_ _ | refine aQ ?_ | refine aM ?_ _)); refine bG (cs := #[.int .i64 0, .int .i64 0, .int .i64 0, .int .i64 0, .int .i64 0]) ?_ 0 _ rfl; (with_reducible repeat (first | refine aN ?_ _ | refine aQ ?_ | refine aM ?_ _)); exact BK326.out⟩, ⟨by repeat (first | (with_reducible first | exact HB.out | apply aH | apply aC | apply aG | refine aJ ?_ GE318.out | refine aJ ?_ GE326.out) | exact HB.out)⟩⟩
       ·replace c13 := Bool.eq_false_iff.mpr c13
        subst c13
        have H1 : ((impl_LessKey.f ((rd_T38 l0 x12_1).f0) ((rd_T38 l0 x12_1).f1) ((rd_T38 l0 x12_1).f2) ((rd_T38 l0 x12_1).f3) ((rd_T38 l0 x12_1).f4) a1_0 a1_1 a1_2 a1_3 a1_4).bind fun t327 => (impl_SetPut.j1 k1 x5_1 false l0 (l0.length : Int) x12_1 (!t327) a1_0 a1_1 a1_2 a1_3 a1_4 ((rd_T38 l0 x12_1).f0) ((rd_T38 l0 x12_1).f1) ((rd_T38 l0 x12_1).f2) ((rd_T38 l0 x12_1).f3) ((rd_T38 l0 x12_1).f4))) = some r := by rw [if_neg (show ¬ (false = true) by decide)] at H; exact H
        clear H
        have H := H1
        clear H1
        replace H := lF H
        obtain ⟨t327, A140, H⟩ := H
        replace H : (impl_SetPut.j1 k1 x5_1 false l0 (l0.length : Int) x12_1 (!t327) a1_0 a1_1 a1_2 a1_3 a1_4 ((rd_T38 l0 x12_1).f0) ((rd_T38 l0 x12_1).f1) ((rd_T38 l0 x12_1).f2) ((rd_T38 l0 x12_1).f3) ((rd_T38 l0 x12_1).f4)) = some r := H
        have A14 := aA.mk A140
        clear A140
        have H' := aA.mk H
        clear H
        have hnb15 := NB326_318.out
        have hnc15 := NB318_326.out
        have hcz16_0 : w10.cell? ⟨gb326, 0, none⟩ = some (.int .i64 0) := (aE BK326.out 0).trans rfl
        have hcz16_1 : w10.cell? ⟨gb326, 1, none⟩ = some (.int .i64 0) := (aE BK326.out 1).trans rfl
        have hcz16_2 : w10.cell? ⟨gb326, 2, none⟩ = some (.int .i64 0) := (aE BK326.out 2).trans rfl
        have hcz16_3 : w10.cell? ⟨gb326, 3, none⟩ = some (.int .i64 0) := (aE BK326.out 3).trans rfl
        have hcz16_4 : w10.cell? ⟨gb326, 4, none⟩ = some (.int .i64 0) := (aE BK326.out 4).trans rfl
        have hfz16_0 := aD BK326.out 0
        have hfz16_1 := aD BK326.out 1
        have hfz16_2 := aD BK326.out 2
        have hfz16_3 := aD BK326.out 3
        have hfz16_4 := aD BK326.out 4
        have hcz17_0 : w10.cell? ⟨gb318, 0, none⟩ = some (.int .i64 a1_0) := (aE BK318.out 0).trans rfl
        have hcz17_1 : w10.cell? ⟨gb318, 1, none⟩ = some (.int .i64 a1_1) := (aE BK318.out 1).trans rfl
        have hcz17_2 : w10.cell? ⟨gb318, 2, none⟩ = some (.int .i64 a1_2) := (aE BK318.out 2).trans rfl
        have hcz17_3 : w10.cell? ⟨gb318, 3, none⟩ = some (.int .i64 a1_3) := (aE BK318.out 3).trans rfl
        have hcz17_4 : w10.cell? ⟨gb318, 4, none⟩ = some (.int .i64 a1_4) := (aE BK318.out 4).trans rfl
        have hfz17_0 := aD BK318.out 0
        have hfz17_1 := aD BK318.out 1
        have hfz17_2 := aD BK318.out 2
        have hfz17_3 := aD BK318.out 3
        have hfz17_4 := aD BK318.out 4
        go_wp2_with (first | (go_at_call 99; (with_reducible refine (impl_LessKey.calls ((rd_T38 l0 x12_1).f0) ((rd_T38 l0 x12_1).f1) ((rd_T38 l0 x12_1).f2) ((rd_T38 l0 x12_1).f3) ((rd_T38 l0 x12_1).f4) a1_0 a1_1 a1_2 a1_3 a1_4 t327 _ A14.out).mono ?_); rintro e w18 ⟨rfl, hb⟩; have n0_ := aA.mk (Kd.bU (by (with_reducible repeat (first | apply Kd.aY | apply Kd.aZ | apply Kd.bA)); exact (Kd.bK (Kd.R_far (p := ⟨gb326, 4, none⟩) (Kd.R_far (p := ⟨gb326, 3, none⟩) (Kd.R_far (p := ⟨gb326, 2, none⟩) (Kd.R_far (p := ⟨gb326, 1, none⟩) (Kd.R_far (p := ⟨gb326, 0, none⟩) (Kd.bK HO_5.out (fun k_ hk => (⟨hk, hk.2⟩ : _ ∧ k_ ≠ gb326))) (fun _ hk => hk.2) (.int .i64 ((rd_T38 l0 x12_1).f0))) (fun _ hk => hk.2) (.int .i64 ((rd_T38 l0 x12_1).f1))) (fun _ hk => hk.2) (.int .i64 ((rd_T38 l0 x12_1).f2))) (fun _ hk => hk.2) (.int .i64 ((rd_T38 l0 x12_1).f3))) (fun _ hk => hk.2) (.int .i64 ((rd_T38 l0 x12_1).f4))) (fun _ h_ => h_.1))) hb); have n1_ := aA.mk (aV (g := gb318) (o := .cells #[.int .i64 a1_0, .int .i64 a1_1, .int .i64 a1_2, .int .i64 a1_3, .int .i64 a1_4] 38 (0, 0)) (by (with_reducible repeat (first | refine aN ?_ _ | refine aQ ?_ | refine aM ?_ _)); refine blk_far ?_ NB318_326.out _; (with_reducible repeat (first | refine aN ?_ _ | refine aQ ?_ | refine aM ?_ _)); refine blk_far ?_ NB318_326.out _; (with_reducible repeat (first | refine aN ?_ _ | refine aQ ?_ | refine aM ?_ _)); refine blk_far ?_ NB318_326.out _; (with_reducible repeat (first | refine aN ?_ _ | refine aQ ?_ | refine aM ?_ _)); refine blk_far ?_ NB318_326.out _; (with_reducible repeat (first | refine aN ?_ _ | refine aQ ?_ | refine aM ?_ _)); refine blk_far ?_ NB318_326.out _; (with_reducible repeat (first | refine aN ?_ _ | refine aQ ?_ | refine aM ?_ _)); exact BK318.out) hb); have n2_ := aA.mk (aV (g := gb326) (o := .cells #[.int .i64 ((rd_T38 l0 x12_1).f0), .int .i64 ((rd_T38 l0 x12_1).f1), .int .i64 ((rd_T38 l0 x12_1).f2), .int .i64 ((rd_T38 l0 x12_1).f3), .int .i64 ((rd_T38 l0 x12_1).f4)] 38 (0, 0)) (by (with_reducible repeat (first | refine aN ?_ _ | refine aQ ?_ | refine aM ?_ _)); refine bG (cs := #[.int .i64 ((rd_T38 l0 x12_1).f0), .int .i64 ((rd_T38 l0 x12_1).f1), .int .i64 ((rd_T38 l0 x12_1).f2), .int .i64 ((rd_T38 l0 x12_1).f3), .int .i64 0]) ?_ 4 _ rfl; (with_reducible repeat (first | refine aN ?_ _ | refine aQ ?_ | refine aM ?_ _)); refine bG (cs := #[.int .i64 ((rd_T38 l0 x12_1).f0), .int .i64 ((rd_T38 l0 x12_1).f1), .int .i64 ((rd_T38 l0 x12_1).f2), .int .i64 0, .int .i64 0]) ?_ 3 _ rfl; (with_reducible repeat (first | refine aN ?_ _ | refine aQ ?_ | refine aM ?_ _)); refine bG (cs := #[.int .i64 ((rd_T38 l0 x12_1).f0), .int .i64 ((rd_T38 l0 x12_1).f1), .int .i64 0, .int .i64 0, .int .i64 0]) ?_ 2 _ rfl; (with_reducible repeat (first | refine aN ?_ _ | refine aQ ?_ | refine aM ?_ _)); refine bG (cs := #[.int .i64 ((rd_T38 l0 x12_1).f0), .int .i64 0, .int .i64 0, .int .i64 0, .int .i64 0]) ?_ 1 _ rfl; (with_reducible repeat (first | refine aN ?_ _ | refine aQ ?_ | refine aM ?_ _)); refine bG (cs := #[.int .i64 0, .int .i64 0, .int .i64 0, .int .i64 0, .int .i64 0]) ?_ 0 _ rfl; (with_reducible repeat (first | refine aN ?_ _ | refine aQ ?_ | refine aM ?_ _)); exact BK326.out) hb); have n3_ := aA.mk (aU (by repeat (first | (with_reducible first | exact HB.out | apply aH | apply aC | apply aG | refine aJ ?_ GE318.out | refine aJ ?_ GE326.out) | exact HB.out)) hb); clear HO_5; clear BK318; clear BK326; clear HB; have HO_5 := n0_; have BK318 := n1_; have BK326 := n2_; have HB := n3_; clear n0_ n1_ n2_ n3_; (try clear hb); (try clear hk)))
        go_meet
        case rel => exact ⟨_, (!t327), (by first | rfl | (simp; done) | (simp [*]; done)), H', ⟨by have := HK1.out; first | omega | exact Nat.le_refl _⟩, ⟨by (with_reducible repeat (first | apply Kd.aY | apply Kd.aZ | apply Kd.bA)); exact HO_5.out⟩, ⟨by (with_reducible repeat (first | refine aN ?_ _ | refine aQ ?_ | refine aM ?_ _)); exact BK318.out⟩, ⟨by (with_reducible repeat (first | refine aN ?_ _ | refine aQ ?_ | refine aM ?_ _)); exact BK326.out⟩, ⟨by repeat (first | (with_reducible first | exact HB.out | apply aH | apply aC | apply aG | refine aJ ?_ GE318.out | refine aJ ?_ GE326.out) | exact HB.out)⟩⟩
      case rest =>
       clear HC9
       try clear c1
       try clear p2
       try clear p3
       try clear q3
       try clear hx3
       try clear c6
       try clear c6b0
       try clear c7
       try clear c7b0
       try clear c8
       try clear c8b0
       try clear c9
       try clear c11
       try clear c13
       try clear c15
       try clear hcz12_0
       try clear hcz12_1
       try clear hcz12_2
       try clear hcz12_3
       try clear hcz12_4
       try clear hcz16_0
       try clear hcz16_1
       try clear hcz16_2
       try clear hcz16_3
       try clear hcz16_4
       try clear hcz17_0
       try clear hcz17_1
       try clear hcz17_2
       try clear hcz17_3
       try clear hcz17_4
       try clear hfz12_0
       try clear hfz12_1
       try clear hfz12_2
       try clear hfz12_3
       try clear hfz12_4
       try clear hfz16_0
       try clear hfz16_1
       try clear hfz16_2
       try clear hfz16_3
       try clear hfz16_4
       try clear hfz17_0
       try clear hfz17_1
       try clear hfz17_2
       try clear hfz17_3
       try clear hfz17_4
       try clear hx325_0
       try clear hx325_1
       try clear hx325_2
       try clear hx325_3
       try clear hx325_4
       try clear p2
       try clear p325
       try clear q325
       obtain ⟨kq, x23_8, rfl, HA, HJ8, HO_5, BK318, BK326, HB⟩ := hcut
       cases kq with
       | zero => exact absurd HA.out (by simp [impl_SetPut.j1])
       | succ kj8 =>
        have H := HA.out
        clear HA
        simp only [impl_SetPut.j1] at H
        by_cases c19 : x23_8 = true
        ·subst c19
         have H1 : (if x5_1.length < 3518437208883 then ((some (x5_1 ++ [(⟨a1_0, a1_1, a1_2, a1_3, a1_4⟩ : S38)] : List (S38))).bind fun y328 => ((impl_SameSpot.f ((rd_T38 l0 x12_1).f0) ((rd_T38 l0 x12_1).f1) ((rd_T38 l0 x12_1).f2) ((rd_T38 l0 x12_1).f3) ((rd_T38 l0 x12_1).f4) a1_0 a1_1 a1_2 a1_3 a1_4).bind fun t331 => (if t331 = true then (impl_SetPut.l0 kj8 y328 true l0 (l0.length : Int) (wrap64 (x12_1 + 1)) a1_0 a1_1 a1_2 a1_3 a1_4) else (if y328.length < 3518437208883 then (impl_SetPut.l0 kj8 (y328 ++ [(⟨((rd_T38 l0 x12_1).f0), ((rd_T38 l0 x12_1).f1), ((rd_T38 l0 x12_1).f2), ((rd_T38 l0 x12_1).f3), ((rd_T38 l0 x12_1).f4)⟩ : S38)]) true l0 (l0.length : Int) (wrap64 (x12_1 + 1)) a1_0 a1_1 a1_2 a1_3 a1_4) else (none))))) else (none)) = some r := by rw [if_pos rfl] at H; exact H
         clear H
         have H := H1
         clear H1
         by_cases c20 : x5_1.length < 3518437208883
         ·rw [if_pos c20] at H
          have LMc20 := aA.mk c20
          clear c20
          obtain ⟨y328, hy328⟩ : ∃ y_ : List (S38), y_ = (x5_1 ++ [(⟨a1_0, a1_1, a1_2, a1_3, a1_4⟩ : S38)]) := ⟨_, rfl⟩
          replace H : ((impl_SameSpot.f ((rd_T38 l0 x12_1).f0) ((rd_T38 l0 x12_1).f1) ((rd_T38 l0 x12_1).f2) ((rd_T38 l0 x12_1).f3) ((rd_T38 l0 x12_1).f4) a1_0 a1_1 a1_2 a1_3 a1_4).bind fun t331 => (if t331 = true then (impl_SetPut.l0 kj8 y328 true l0 (l0.length : Int) (wrap64 (x12_1 + 1)) a1_0 a1_1 a1_2 a1_3 a1_4) else (if y328.length < 3518437208883 then (impl_SetPut.l0 kj8 (y328 ++ [(⟨((rd_T38 l0 x12_1).f0), ((rd_T38 l0 x12_1).f1), ((rd_T38 l0 x12_1).f2), ((rd_T38 l0 x12_1).f3), ((rd_T38 l0 x12_1).f4)⟩ : S38)]) true l0 (l0.length : Int) (wrap64 (x12_1 + 1)) a1_0 a1_1 a1_2 a1_3 a1_4) else (none)))) = some r := by first | (rw [hy328]; with_reducible exact H) | (have H2_ := (Option.bind_some _ _).symm.trans H; rw [hy328]; with_reducible exact H2_) | (have H2_ := (Option.bind_some _ _).symm.trans H; with_reducible exact H2_) | with_reducible exact H | (rw [hy328]; exact H) | exact H
          have Ny328 := aA.mk hy328
          clear hy328
          replace H := lF H
          obtain ⟨t331, A210, H⟩ := H
          replace H : (if t331 = true then (impl_SetPut.l0 kj8 y328 true l0 (l0.length : Int) (wrap64 (x12_1 + 1)) a1_0 a1_1 a1_2 a1_3 a1_4) else (if y328.length < 3518437208883 then (impl_SetPut.l0 kj8 (y328 ++ [(⟨((rd_T38 l0 x12_1).f0), ((rd_T38 l0 x12_1).f1), ((rd_T38 l0 x12_1).f2), ((rd_T38 l0 x12_1).f3), ((rd_T38 l0 x12_1).f4)⟩ : S38)]) true l0 (l0.length : Int) (wrap64 (x12_1 + 1)) a1_0 a1_1 a1_2 a1_3 a1_4) else (none))) = some r := H
          have A21 := aA.mk A210
          clear A210
          by_cases c22 : t331 = true
          ·subst c22
           have H1 : (impl_SetPut.l0 kj8 y328 true l0 (l0.length : Int) (wrap64 (x12_1 + 1)) a1_0 a1_1 a1_2 a1_3 a1_4) = some r := by rw [if_pos rfl] at H; exact H
           clear H
           have H := H1
           clear H1
           have H' := aA.mk H
           clear H
           have hnb23 := NB318_326.out
           have hnc23 := NB326_318.out
           have hcz24_0 : wc.cell? ⟨gb318, 0, none⟩ = some (.int .i64 a1_0) := (aE BK318.out 0).trans rfl
           have hcz24_1 : wc.cell? ⟨gb318, 1, none⟩ = some (.int .i64 a1_1) := (aE BK318.out 1).trans rfl
           have hcz24_2 : wc.cell? ⟨gb318, 2, none⟩ = some (.int .i64 a1_2) := (aE BK318.out 2).trans rfl
           have hcz24_3 : wc.cell? ⟨gb318, 3, none⟩ = some (.int .i64 a1_3) := (aE BK318.out 3).trans rfl
           have hcz24_4 : wc.cell? ⟨gb318, 4, none⟩ = some (.int .i64 a1_4) := (aE BK318.out 4).trans rfl
           have hfz24_0 := aD BK318.out 0
           have hfz24_1 := aD BK318.out 1
           have hfz24_2 := aD BK318.out 2
           have hfz24_3 := aD BK318.out 3
           have hfz24_4 := aD BK318.out 4
           go_wp2_with (first | ((with_reducible refine gate_builtin (b := .append) (xs := #[.tmp 24, .tmp 26]) rfl ?_); at_builtin; refine Kd.R_append k38 (w0 := w) w.heap.size rfl (.tmp 24) (.tmp 26) 45 38 (.agg #[(.int .i64 0), (.int .i64 0), (.int .i64 0), (.int .i64 0), (.int .i64 0)]) 40 rfl Try.underlying45 info38 rfl (by decide) (by omega) u5 x5_1 (⟨a1_0, a1_1, a1_2, a1_3, a1_4⟩ : S38) [.int .i64 a1_0, .int .i64 a1_1, .int .i64 a1_2, .int .i64 a1_3, .int .i64 a1_4] (fun k_ => k_ ≠ gb318 ∧ k_ ≠ gb326) (fun _ => False) rfl rfl ?aP (fun _ hk => hk.elim) ?aF ?aO ?aB ?aS ?aL ?_; (case aP => exact k38_mkM _ _ _ (⟨a1_0, a1_1, a1_2, a1_3, a1_4⟩ : S38)); (case aB => exact (by repeat (first | (with_reducible first | exact HB.out | apply aH | apply aC | apply aG | refine aJ ?_ GE318.out | refine aJ ?_ GE326.out) | exact HB.out))); (case aF => exact (fun k_ hk => ⟨Kd.freshB (g := gb318) (o := .cells #[.int .i64 a1_0, .int .i64 a1_1, .int .i64 a1_2, .int .i64 a1_3, .int .i64 a1_4] 38 (0, 0)) (by (with_reducible repeat (first | refine aN ?_ _ | refine aQ ?_ | refine aM ?_ _)); exact BK318.out) k_ hk, Kd.freshB (g := gb326) (o := .cells #[.int .i64 ((rd_T38 l0 x12_1).f0), .int .i64 ((rd_T38 l0 x12_1).f1), .int .i64 ((rd_T38 l0 x12_1).f2), .int .i64 ((rd_T38 l0 x12_1).f3), .int .i64 ((rd_T38 l0 x12_1).f4)] 38 (0, 0)) (by (with_reducible repeat (first | refine aN ?_ _ | refine aQ ?_ | refine aM ?_ _)); exact BK326.out) k_ hk⟩)); (case aO => exact (by (with_reducible repeat (first | apply Kd.aY | apply Kd.aZ | apply Kd.bA)); exact HO_5.out)); (case aS => exact (aT (by repeat (first | (with_reducible first | exact HB.out | apply aH | apply aC | apply aG | refine aJ ?_ GE318.out | refine aJ ?_ GE326.out) | exact HB.out)))); (case aL => have := LMc20.out; omega); intro v329 w25 ho hb hg hat; rw [← Ny328.out] at ho; have n0_ := aA.mk (blk_grown (g := gb318) (o := .cells #[.int .i64 a1_0, .int .i64 a1_1, .int .i64 a1_2, .int .i64 a1_3, .int .i64 a1_4] 38 (0, 0)) (by (with_reducible repeat (first | refine aN ?_ _ | refine aQ ?_ | refine aM ?_ _)); exact BK318.out) hg (Kd.R_away HO_5.out (fun _ hk => hk.1))); have n1_ := aA.mk (blk_grown (g := gb326) (o := .cells #[.int .i64 ((rd_T38 l0 x12_1).f0), .int .i64 ((rd_T38 l0 x12_1).f1), .int .i64 ((rd_T38 l0 x12_1).f2), .int .i64 ((rd_T38 l0 x12_1).f3), .int .i64 ((rd_T38 l0 x12_1).f4)] 38 (0, 0)) (by (with_reducible repeat (first | refine aN ?_ _ | refine aQ ?_ | refine aM ?_ _)); exact BK326.out) hg (Kd.R_away HO_5.out (fun _ hk => hk.2))); have n2_ := aA.mk (hb); have n3_ := aA.mk (ho); clear BK318; clear BK326; clear HB; clear HO_5; have BK318 := n0_; have BK326 := n1_; have HB := n2_; have HO330 := n3_; clear n0_ n1_ n2_ n3_; clear ho hb hg hat; have hcz26_0 : w25.cell? ⟨gb326, 0, none⟩ = some (.int .i64 ((rd_T38 l0 x12_1).f0)) := (aE BK326.out 0).trans rfl; have hcz26_1 : w25.cell? ⟨gb326, 1, none⟩ = some (.int .i64 ((rd_T38 l0 x12_1).f1)) := (aE BK326.out 1).trans rfl; have hcz26_2 : w25.cell? ⟨gb326, 2, none⟩ = some (.int .i64 ((rd_T38 l0 x12_1).f2)) := (aE BK326.out 2).trans rfl; have hcz26_3 : w25.cell? ⟨gb326, 3, none⟩ = some (.int .i64 ((rd_T38 l0 x12_1).f3)) := (aE BK326.out 3).trans rfl; have hcz26_4 : w25.cell? ⟨gb326, 4, none⟩ = some (.int .i64 ((rd_T38 l0 x12_1).f4)) := (aE BK326.out 4).trans rfl; have hfz26_0 := aD BK326.out 0; have hfz26_1 := aD BK326.out 1; have hfz26_2 := aD BK326.out 2; have hfz26_3 := aD BK326.out 3; have hfz26_4 := aD BK326.out 4; have hcz27_0 : w25.cell? ⟨gb318, 0, none⟩ = some (.int .i64 a1_0) := (aE BK318.out 0).trans rfl; have hcz27_1 : w25.cell? ⟨gb318, 1, none⟩ = some (.int .i64 a1_1) := (aE BK318.out 1).trans rfl; have hcz27_2 : w25.cell? ⟨gb318, 2, none⟩ = some (.int .i64 a1_2) := (aE BK318.out 2).trans rfl; have hcz27_3 : w25.cell? ⟨gb318, 3, none⟩ = some (.int .i64 a1_3) := (aE BK318.out 3).trans rfl; have hcz27_4 : w25.cell? ⟨gb318, 4, none⟩ = some (.int .i64 a1_4) := (aE BK318.out 4).trans rfl; have hfz27_0 := aD BK318.out 0; have hfz27_1 := aD BK318.out 1; have hfz27_2 := aD BK318.out 2; have hfz27_3 := aD BK318.out 3; have hfz27_4 := aD BK318.out 4) | ((with_reducible refine bB (f := 102) rfl ?_); refine bP (some 30) rfl rfl Try.func102 (by kernel_rfl) rfl #[.agg #[.int .i64 ((rd_T38 l0 x12_1).f0), .int .i64 ((rd_T38 l0 x12_1).f1), .int .i64 ((rd_T38 l0 x12_1).f2), .int .i64 ((rd_T38 l0 x12_1).f3), .int .i64 ((rd_T38 l0 x12_1).f4)], .agg #[.int .i64 a1_0, .int .i64 a1_1, .int .i64 a1_2, .int .i64 a1_3, .int .i64 a1_4]] rfl (by (try simp only [List.map_toArray, List.map_cons, List.map_nil]); first | done | rfl | (simp only [List.length_drop, List.length_take]; rfl)) ?_; (with_reducible refine (impl_SameSpot.calls ((rd_T38 l0 x12_1).f0) ((rd_T38 l0 x12_1).f1) ((rd_T38 l0 x12_1).f2) ((rd_T38 l0 x12_1).f3) ((rd_T38 l0 x12_1).f4) a1_0 a1_1 a1_2 a1_3 a1_4 true _ A21.out).mono ?_); rintro e w28 ⟨rfl, hb⟩; refine ⟨_, rfl, ?_⟩; have n0_ := aA.mk (Kd.bU (by (with_reducible repeat (first | apply Kd.aY | apply Kd.aZ | apply Kd.bA)); exact HO330.out) hb); have n1_ := aA.mk (aV (g := gb318) (o := .cells #[.int .i64 a1_0, .int .i64 a1_1, .int .i64 a1_2, .int .i64 a1_3, .int .i64 a1_4] 38 (0, 0)) (by (with_reducible repeat (first | refine aN ?_ _ | refine aQ ?_ | refine aM ?_ _)); exact BK318.out) hb); have n2_ := aA.mk (aV (g := gb326) (o := .cells #[.int .i64 ((rd_T38 l0 x12_1).f0), .int .i64 ((rd_T38 l0 x12_1).f1), .int .i64 ((rd_T38 l0 x12_1).f2), .int .i64 ((rd_T38 l0 x12_1).f3), .int .i64 ((rd_T38 l0 x12_1).f4)] 38 (0, 0)) (by (with_reducible repeat (first | refine aN ?_ _ | refine aQ ?_ | refine aM ?_ _)); exact BK326.out) hb); have n3_ := aA.mk (aU (by repeat (first | (with_reducible first | exact HB.out | apply aH | apply aC | apply aG | refine aJ ?_ GE318.out | refine aJ ?_ GE326.out) | exact HB.out)) hb); clear HO330; clear BK318; clear BK326; clear HB; have HO330 := n0_; have BK318 := n1_; have BK326 := n2_; have HB := n3_; clear n0_ n1_ n2_ n3_; (try clear hb); (try clear hk)))
           go_roundg kj8
           case measure => have := HK1.out; have := HJ8.out; omega
           case rel => exact ⟨(y328), (true), (wrap64 (x12_1 + 1)), (by first | rfl | (simp; done) | (simp [*]; done)), (by first | rfl | (simp; done) | (simp [*]; done)), H', ⟨by have := HK1.out; have := HJ8.out; omega⟩, ⟨by (with_reducible repeat (first | apply Kd.aY | apply Kd.aZ | apply Kd.bA)); exact Kd.bK HO330.out (fun _ hk => hk.1)⟩, ⟨by (with_reducible repeat (first | refine aN ?_ _ | refine aQ ?_ | refine aM ?_ _)); exact BK318.out⟩, ⟨by repeat (first | (with_reducible first | exact HB.out | apply aH | apply aC | apply aG | refine aJ ?_ GE318.out | refine aJ ?_ GE326.out) | exact HB.out)⟩⟩
          ·replace c22 := Bool.eq_false_iff.mpr c22
           subst c22
           have H1 : (if y328.length < 3518437208883 then (impl_SetPut.l0 kj8 (y328 ++ [(⟨((rd_T38 l0 x12_1).f0), ((rd_T38 l0 x12_1).f1), ((rd_T38 l0 x12_1).f2), ((rd_T38 l0 x12_1).f3), ((rd_T38 l0 x12_1).f4)⟩ : S38)]) true l0 (l0.length : Int) (wrap64 (x12_1 + 1)) a1_0 a1_1 a1_2 a1_3 a1_4) else (none)) = some r := by rw [if_neg (show ¬ (false = true) by decide)] at H; exact H
           clear H
           have H := H1
           clear H1
           by_cases c29 : y328.length < 3518437208883
           ·rw [if_pos c29] at H
            have LMc29 := aA.mk c29
            clear c29
            obtain ⟨y332, hy332⟩ : ∃ y_ : List (S38), y_ = (y328 ++ [(⟨((rd_T38 l0 x12_1).f0), ((rd_T38 l0 x12_1).f1), ((rd_T38 l0 x12_1).f2), ((rd_T38 l0 x12_1).f3), ((rd_T38 l0 x12_1).f4)⟩ : S38)]) := ⟨_, rfl⟩
            replace H : (impl_SetPut.l0 kj8 y332 true l0 (l0.length : Int) (wrap64 (x12_1 + 1)) a1_0 a1_1 a1_2 a1_3 a1_4) = some r := by first | (rw [hy332]; with_reducible exact H) | (have H2_ := (Option.bind_some _ _).symm.trans H; rw [hy332]; with_reducible exact H2_) | (have H2_ := (Option.bind_some _ _).symm.trans H; with_reducible exact H2_) | with_reducible exact H | (rw [hy332]; exact H) | exact H
            have Ny332 := aA.mk hy332
            clear hy332
            have H' := aA.mk H
            clear H
            have hnb30 := NB318_326.out
            have hnc30 := NB326_318.out
            have hcz31_0 : wc.cell? ⟨gb318, 0, none⟩ = some (.int .i64 a1_0) := (aE BK318.out 0).trans rfl
            have hcz31_1 : wc.cell? ⟨gb318, 1, none⟩ = some (.int .i64 a1_1) := (aE BK318.out 1).trans rfl
            have hcz31_2 : wc.cell? ⟨gb318, 2, none⟩ = some (.int .i64 a1_2) := (aE BK318.out 2).trans rfl
            have hcz31_3 : wc.cell? ⟨gb318, 3, none⟩ = some (.int .i64 a1_3) := (aE BK318.out 3).trans rfl
            have hcz31_4 : wc.cell? ⟨gb318, 4, none⟩ = some (.int .i64 a1_4) := (aE BK318.out 4).trans rfl
            have hfz31_0 := aD BK318.out 0
            have hfz31_1 := aD BK318.out 1
            have hfz31_2 := aD BK318.out 2
            have hfz31_3 := aD BK318.out 3
            have hfz31_4 := aD BK318.out 4
            go_wp2_with (first | ((with_reducible refine gate_builtin (b := .append) (xs := #[.tmp 24, .tmp 26]) rfl ?_); at_builtin; refine Kd.R_append k38 (w0 := w) w.heap.size rfl (.tmp 24) (.tmp 26) 45 38 (.agg #[(.int .i64 0), (.int .i64 0), (.int .i64 0), (.int .i64 0), (.int .i64 0)]) 40 rfl Try.underlying45 info38 rfl (by decide) (by omega) u5 x5_1 (⟨a1_0, a1_1, a1_2, a1_3, a1_4⟩ : S38) [.int .i64 a1_0, .int .i64 a1_1, .int .i64 a1_2, .int .i64 a1_3, .int .i64 a1_4] (fun k_ => k_ ≠ gb318 ∧ k_ ≠ gb326) (fun _ => False) rfl rfl ?aP (fun _ hk => hk.elim) ?aF ?aO ?aB ?aS ?aL ?_; (case aP => exact k38_mkM _ _ _ (⟨a1_0, a1_1, a1_2, a1_3, a1_4⟩ : S38)); (case aB => exact (by repeat (first | (with_reducible first | exact HB.out | apply aH | apply aC | apply aG | refine aJ ?_ GE318.out | refine aJ ?_ GE326.out) | exact HB.out))); (case aF => exact (fun k_ hk => ⟨Kd.freshB (g := gb318) (o := .cells #[.int .i64 a1_0, .int .i64 a1_1, .int .i64 a1_2, .int .i64 a1_3, .int .i64 a1_4] 38 (0, 0)) (by (with_reducible repeat (first | refine aN ?_ _ | refine aQ ?_ | refine aM ?_ _)); exact BK318.out) k_ hk, Kd.freshB (g := gb326) (o := .cells #[.int .i64 ((rd_T38 l0 x12_1).f0), .int .i64 ((rd_T38 l0 x12_1).f1), .int .i64 ((rd_T38 l0 x12_1).f2), .int .i64 ((rd_T38 l0 x12_1).f3), .int .i64 ((rd_T38 l0 x12_1).f4)] 38 (0, 0)) (by (with_reducible repeat (first | refine aN ?_ _ | refine aQ ?_ | refine aM ?_ _)); exact BK326.out) k_ hk⟩)); (case aO => exact (by (with_reducible repeat (first | apply Kd.aY | apply Kd.aZ | apply Kd.bA)); exact HO_5.out)); (case aS => exact (aT (by repeat (first | (with_reducible first | exact HB.out | apply aH | apply aC | apply aG | refine aJ ?_ GE318.out | refine aJ ?_ GE326.out) | exact HB.out)))); (case aL => have := LMc20.out; omega); intro v329 w32 ho hb hg hat; rw [← Ny328.out] at ho; have n0_ := aA.mk (blk_grown (g := gb318) (o := .cells #[.int .i64 a1_0, .int .i64 a1_1, .int .i64 a1_2, .int .i64 a1_3, .int .i64 a1_4] 38 (0, 0)) (by (with_reducible repeat (first | refine aN ?_ _ | refine aQ ?_ | refine aM ?_ _)); exact BK318.out) hg (Kd.R_away HO_5.out (fun _ hk => hk.1))); have n1_ := aA.mk (blk_grown (g := gb326) (o := .cells #[.int .i64 ((rd_T38 l0 x12_1).f0), .int .i64 ((rd_T38 l0 x12_1).f1), .int .i64 ((rd_T38 l0 x12_1).f2), .int .i64 ((rd_T38 l0 x12_1).f3), .int .i64 ((rd_T38 l0 x12_1).f4)] 38 (0, 0)) (by (with_reducible repeat (first | refine aN ?_ _ | refine aQ ?_ | refine aM ?_ _)); exact BK326.out) hg (Kd.R_away HO_5.out (fun _ hk => hk.2))); have n2_ := aA.mk (hb); have n3_ := aA.mk (ho); clear BK318; clear BK326; clear HB; clear HO_5; have BK318 := n0_; have BK326 := n1_; have HB := n2_; have HO330 := n3_; clear n0_ n1_ n2_ n3_; clear ho hb hg hat; have hcz33_0 : w32.cell? ⟨gb326, 0, none⟩ = some (.int .i64 ((rd_T38 l0 x12_1).f0)) := (aE BK326.out 0).trans rfl; have hcz33_1 : w32.cell? ⟨gb326, 1, none⟩ = some (.int .i64 ((rd_T38 l0 x12_1).f1)) := (aE BK326.out 1).trans rfl; have hcz33_2 : w32.cell? ⟨gb326, 2, none⟩ = some (.int .i64 ((rd_T38 l0 x12_1).f2)) := (aE BK326.out 2).trans rfl; have hcz33_3 : w32.cell? ⟨gb326, 3, none⟩ = some (.int .i64 ((rd_T38 l0 x12_1).f3)) := (aE BK326.out 3).trans rfl; have hcz33_4 : w32.cell? ⟨gb326, 4, none⟩ = some (.int .i64 ((rd_T38 l0 x12_1).f4)) := (aE BK326.out 4).trans rfl; have hfz33_0 := aD BK326.out 0; have hfz33_1 := aD BK326.out 1; have hfz33_2 := aD BK326.out 2; have hfz33_3 := aD BK326.out 3; have hfz33_4 := aD BK326.out 4; have hcz34_0 : w32.cell? ⟨gb318, 0, none⟩ = some (.int .i64 a1_0) := (aE BK318.out 0).trans rfl; have hcz34_1 : w32.cell? ⟨gb318, 1, none⟩ = some (.int .i64 a1_1) := (aE BK318.out 1).trans rfl; have hcz34_2 : w32.cell? ⟨gb318, 2, none⟩ = some (.int .i64 a1_2) := (aE BK318.out 2).trans rfl; have hcz34_3 : w32.cell? ⟨gb318, 3, none⟩ = some (.int .i64 a1_3) := (aE BK318.out 3).trans rfl; have hcz34_4 : w32.cell? ⟨gb318, 4, none⟩ = some (.int .i64 a1_4) := (aE BK318.out 4).trans rfl; have hfz34_0 := aD BK318.out 0; have hfz34_1 := aD BK318.out 1; have hfz34_2 := aD BK318.out 2; have hfz34_3 := aD BK318.out 3; have hfz34_4 := aD BK318.out 4) | ((with_reducible refine bB (f := 102) rfl ?_); refine bP (some 30) rfl rfl Try.func102 (by kernel_rfl) rfl #[.agg #[.int .i64 ((rd_T38 l0 x12_1).f0), .int .i64 ((rd_T38 l0 x12_1).f1), .int .i64 ((rd_T38 l0 x12_1).f2), .int .i64 ((rd_T38 l0 x12_1).f3), .int .i64 ((rd_T38 l0 x12_1).f4)], .agg #[.int .i64 a1_0, .int .i64 a1_1, .int .i64 a1_2, .int .i64 a1_3, .int .i64 a1_4]] rfl (by (try simp only [List.map_toArray, List.map_cons, List.map_nil]); first | done | rfl | (simp only [List.length_drop, List.length_take]; rfl)) ?_; (with_reducible refine (impl_SameSpot.calls ((rd_T38 l0 x12_1).f0) ((rd_T38 l0 x12_1).f1) ((rd_T38 l0 x12_1).f2) ((rd_T38 l0 x12_1).f3) ((rd_T38 l0 x12_1).f4) a1_0 a1_1 a1_2 a1_3 a1_4 false _ A21.out).mono ?_); rintro e w35 ⟨rfl, hb⟩; refine ⟨_, rfl, ?_⟩; have n0_ := aA.mk (Kd.bU (by (with_reducible repeat (first | apply Kd.aY | apply Kd.aZ | apply Kd.bA)); exact HO330.out) hb); have n1_ := aA.mk (aV (g := gb318) (o := .cells #[.int .i64 a1_0, .int .i64 a1_1, .int .i64 a1_2, .int .i64 a1_3, .int .i64 a1_4] 38 (0, 0)) (by (with_reducible repeat (first | refine aN ?_ _ | refine aQ ?_ | refine aM ?_ _)); exact BK318.out) hb); have n2_ := aA.mk (aV (g := gb326) (o := .cells #[.int .i64 ((rd_T38 l0 x12_1).f0), .int .i64 ((rd_T38 l0 x12_1).f1), .int .i64 ((rd_T38 l0 x12_1).f2), .int .i64 ((rd_T38 l0 x12_1).f3), .int .i64 ((rd_T38 l0 x12_1).f4)] 38 (0, 0)) (by (with_reducible repeat (first | refine aN ?_ _ | refine aQ ?_ | refine aM ?_ _)); exact BK326.out) hb); have n3_ := aA.mk (aU (by repeat (first | (with_reducible first | exact HB.out | apply aH | apply aC | apply aG | refine aJ ?_ GE318.out | refine aJ ?_ GE326.out) | exact HB.out)) hb); clear HO330; clear BK318; clear BK326; clear HB; have HO330 := n0_; have BK318 := n1_; have BK326 := n2_; have HB := n3_; clear n0_ n1_ n2_ n3_; (try clear hb); (try clear hk); have hcz36_0 : w35.cell? ⟨gb326, 0, none⟩ = some (.int .i64 ((rd_T38 l0 x12_1).f0)) := (aE BK326.out 0).trans rfl; have hcz36_1 : w35.cell? ⟨gb326, 1, none⟩ = some (.int .i64 ((rd_T38 l0 x12_1).f1)) := (aE BK326.out 1).trans rfl; have hcz36_2 : w35.cell? ⟨gb326, 2, none⟩ = some (.int .i64 ((rd_T38 l0 x12_1).f2)) := (aE BK326.out 2).trans rfl; have hcz36_3 : w35.cell? ⟨gb326, 3, none⟩ = some (.int .i64 ((rd_T38 l0 x12_1).f3)) := (aE BK326.out 3).trans rfl; have hcz36_4 : w35.cell? ⟨gb326, 4, none⟩ = some (.int .i64 ((rd_T38 l0 x12_1).f4)) := (aE BK326.out 4).trans rfl; have hfz36_0 := aD BK326.out 0; have hfz36_1 := aD BK326.out 1; have hfz36_2 := aD BK326.out 2; have hfz36_3 := aD BK326.out 3; have hfz36_4 := aD BK326.out 4) | ((with_reducible refine gate_builtin (b := .append) (xs := #[.tmp 32, .tmp 34]) rfl ?_); at_builtin; refine Kd.R_append k38 (w0 := w) w.heap.size rfl (.tmp 32) (.tmp 34) 45 38 (.agg #[(.int .i64 0), (.int .i64 0), (.int .i64 0), (.int .i64 0), (.int .i64 0)]) 40 rfl Try.underlying45 info38 rfl (by decide) (by omega) v329 y328 (⟨((rd_T38 l0 x12_1).f0), ((rd_T38 l0 x12_1).f1), ((rd_T38 l0 x12_1).f2), ((rd_T38 l0 x12_1).f3), ((rd_T38 l0 x12_1).f4)⟩ : S38) [.int .i64 ((rd_T38 l0 x12_1).f0), .int .i64 ((rd_T38 l0 x12_1).f1), .int .i64 ((rd_T38 l0 x12_1).f2), .int .i64 ((rd_T38 l0 x12_1).f3), .int .i64 ((rd_T38 l0 x12_1).f4)] (fun k_ => k_ ≠ gb318 ∧ k_ ≠ gb326) (fun _ => False) rfl rfl ?aP (fun _ hk => hk.elim) ?aF ?aO ?aB ?aS ?aL ?_; (case aP => exact k38_mkM _ _ _ (⟨((rd_T38 l0 x12_1).f0), ((rd_T38 l0 x12_1).f1), ((rd_T38 l0 x12_1).f2), ((rd_T38 l0 x12_1).f3), ((rd_T38 l0 x12_1).f4)⟩ : S38)); (case aB => exact (by repeat (first | (with_reducible first | exact HB.out | apply aH | apply aC | apply aG | refine aJ ?_ GE318.out | refine aJ ?_ GE326.out) | exact HB.out))); (case aF => exact (fun k_ hk => ⟨Kd.freshB (g := gb318) (o := .cells #[.int .i64 a1_0, .int .i64 a1_1, .int .i64 a1_2, .int .i64 a1_3, .int .i64 a1_4] 38 (0, 0)) (by (with_reducible repeat (first | refine aN ?_ _ | refine aQ ?_ | refine aM ?_ _)); exact BK318.out) k_ hk, Kd.freshB (g := gb326) (o := .cells #[.int .i64 ((rd_T38 l0 x12_1).f0), .int .i64 ((rd_T38 l0 x12_1).f1), .int .i64 ((rd_T38 l0 x12_1).f2), .int .i64 ((rd_T38 l0 x12_1).f3), .int .i64 ((rd_T38 l0 x12_1).f4)] 38 (0, 0)) (by (with_reducible repeat (first | refine aN ?_ _ | refine aQ ?_ | refine aM ?_ _)); exact BK326.out) k_ hk⟩)); (case aO => exact (by (with_reducible repeat (first | apply Kd.aY | apply Kd.aZ | apply Kd.bA)); exact HO330.out)); (case aS => exact (aT (by repeat (first | (with_reducible first | exact HB.out | apply aH | apply aC | apply aG | refine aJ ?_ GE318.out | refine aJ ?_ GE326.out) | exact HB.out)))); (case aL => have := LMc29.out; omega); intro v333 w37 ho hb hg hat; rw [← Ny332.out] at ho; have n0_ := aA.mk (blk_grown (g := gb318) (o := .cells #[.int .i64 a1_0, .int .i64 a1_1, .int .i64 a1_2, .int .i64 a1_3, .int .i64 a1_4] 38 (0, 0)) (by (with_reducible repeat (first | refine aN ?_ _ | refine aQ ?_ | refine aM ?_ _)); exact BK318.out) hg (Kd.R_away HO330.out (fun _ hk => hk.1))); have n1_ := aA.mk (blk_grown (g := gb326) (o := .cells #[.int .i64 ((rd_T38 l0 x12_1).f0), .int .i64 ((rd_T38 l0 x12_1).f1), .int .i64 ((rd_T38 l0 x12_1).f2), .int .i64 ((rd_T38 l0 x12_1).f3), .int .i64 ((rd_T38 l0 x12_1).f4)] 38 (0, 0)) (by (with_reducible repeat (first | refine aN ?_ _ | refine aQ ?_ | refine aM ?_ _)); exact BK326.out) hg (Kd.R_away HO330.out (fun _ hk => hk.2))); have n2_ := aA.mk (hb); have n3_ := aA.mk (ho); clear BK318; clear BK326; clear HB; clear HO330; have BK318 := n0_; have BK326 := n1_; have HB := n2_; have HO334 := n3_; clear n0_ n1_ n2_ n3_; clear ho hb hg hat))
            go_roundg kj8
            case measure => have := HK1.out; have := HJ8.out; omega
            case rel => exact ⟨(y332), (true), (wrap64 (x12_1 + 1)), (by first | rfl | (simp; done) | (simp [*]; done)), (by first | rfl | (simp; done) | (simp [*]; done)), H', ⟨by have := HK1.out; have := HJ8.out; omega⟩, ⟨by (with_reducible repeat (first | apply Kd.aY | apply Kd.aZ | apply Kd.bA)); exact Kd.bK HO334.out (fun _ hk => hk.1)⟩, ⟨by (with_reducible repeat (first | refine aN ?_ _ | refine aQ ?_ | refine aM ?_ _)); exact BK318.out⟩, ⟨by repeat (first | (with_reducible first | exact HB.out | apply aH | apply aC | apply aG | refine aJ ?_ GE318.out | refine aJ ?_ GE326.out) | exact HB.out)⟩⟩
           ·rw [if_neg c29] at H
            exact absurd H (by simp)
         ·rw [if_neg c20] at H
          exact absurd H (by simp)
        ·replace c19 := Bool.eq_false_iff.mpr c19
         subst c19
         have H1 : ((impl_SameSpot.f ((rd_T38 l0 x12_1).f0) ((rd_T38 l0 x12_1).f1) ((rd_T38 l0 x12_1).f2) ((rd_T38 l0 x12_1).f3) ((rd_T38 l0 x12_1).f4) a1_0 a1_1 a1_2 a1_3 a1_4).bind fun t335 => (if t335 = true then (impl_SetPut.l0 kj8 x5_1 x6_1 l0 (l0.length : Int) (wrap64 (x12_1 + 1)) a1_0 a1_1 a1_2 a1_3 a1_4) else (if x5_1.length < 3518437208883 then (impl_SetPut.l0 kj8 (x5_1 ++ [(⟨((rd_T38 l0 x12_1).f0), ((rd_T38 l0 x12_1).f1), ((rd_T38 l0 x12_1).f2), ((rd_T38 l0 x12_1).f3), ((rd_T38 l0 x12_1).f4)⟩ : S38)]) x6_1 l0 (l0.length : Int) (wrap64 (x12_1 + 1)) a1_0 a1_1 a1_2 a1_3 a1_4) else (none)))) = some r := by rw [if_neg (show ¬ (false = true) by decide)] at H; exact H
         clear H
         have H := H1
         clear H1
         replace H := lF H
         obtain ⟨t335, A380, H⟩ := H
         replace H : (if t335 = true then (impl_SetPut.l0 kj8 x5_1 x6_1 l0 (l0.length : Int) (wrap64 (x12_1 + 1)) a1_0 a1_1 a1_2 a1_3 a1_4) else (if x5_1.length < 3518437208883 then (impl_SetPut.l0 kj8 (x5_1 ++ [(⟨((rd_T38 l0 x12_1).f0), ((rd_T38 l0 x12_1).f1), ((rd_T38 l0 x12_1).f2), ((rd_T38 l0 x12_1).f3), ((rd_T38 l0 x12_1).f4)⟩ : S38)]) x6_1 l0 (l0.length : Int) (wrap64 (x12_1 + 1)) a1_0 a1_1 a1_2 a1_3 a1_4) else (none))) = some r := H
         have A38 := aA.mk A380
         clear A380
         by_cases c39 : t335 = true
         ·subst c39
          have H1 : (impl_SetPut.l0 kj8 x5_1 x6_1 l0 (l0.length : Int) (wrap64 (x12_1 + 1)) a1_0 a1_1 a1_2 a1_3 a1_4) = some r := by rw [if_pos rfl] at H; exact H
          clear H
          have H := H1
          clear H1
          have H' := aA.mk H
          clear H
          have hnb40 := NB326_318.out
          have hnc40 := NB318_326.out
          have hcz41_0 : wc.cell? ⟨gb326, 0, none⟩ = some (.int .i64 ((rd_T38 l0 x12_1).f0)) := (aE BK326.out 0).trans rfl
          have hcz41_1 : wc.cell? ⟨gb326, 1, none⟩ = some (.int .i64 ((rd_T38 l0 x12_1).f1)) := (aE BK326.out 1).trans rfl
          have hcz41_2 : wc.cell? ⟨gb326, 2, none⟩ = some (.int .i64 ((rd_T38 l0 x12_1).f2)) := (aE BK326.out 2).trans rfl
          have hcz41_3 : wc.cell? ⟨gb326, 3, none⟩ = some (.int .i64 ((rd_T38 l0 x12_1).f3)) := (aE BK326.out 3).trans rfl
          have hcz41_4 : wc.cell? ⟨gb326, 4, none⟩ = some (.int .i64 ((rd_T38 l0 x12_1).f4)) := (aE BK326.out 4).trans rfl
          have hfz41_0 := aD BK326.out 0
          have hfz41_1 := aD BK326.out 1
          have hfz41_2 := aD BK326.out 2
          have hfz41_3 := aD BK326.out 3
          have hfz41_4 := aD BK326.out 4
          have hcz42_0 : wc.cell? ⟨gb318, 0, none⟩ = some (.int .i64 a1_0) := (aE BK318.out 0).trans rfl
          have hcz42_1 : wc.cell? ⟨gb318, 1, none⟩ = some (.int .i64 a1_1) := (aE BK318.out 1).trans rfl
          have hcz42_2 : wc.cell? ⟨gb318, 2, none⟩ = some (.int .i64 a1_2) := (aE BK318.out 2).trans rfl
          have hcz42_3 : wc.cell? ⟨gb318, 3, none⟩ = some (.int .i64 a1_3) := (aE BK318.out 3).trans rfl
          have hcz42_4 : wc.cell? ⟨gb318, 4, none⟩ = some (.int .i64 a1_4) := (aE BK318.out 4).trans rfl
          have hfz42_0 := aD BK318.out 0
          have hfz42_1 := aD BK318.out 1
          have hfz42_2 := aD BK318.out 2
          have hfz42_3 := aD BK318.out 3
          have hfz42_4 := aD BK318.out 4
          go_wp2_with (first | ((with_reducible refine bB (f := 102) rfl ?_); refine bP (some 30) rfl rfl Try.func102 (by kernel_rfl) rfl #[.agg #[.int .i64 ((rd_T38 l0 x12_1).f0), .int .i64 ((rd_T38 l0 x12_1).f1), .int .i64 ((rd_T38 l0 x12_1).f2), .int .i64 ((rd_T38 l0 x12_1).f3), .int .i64 ((rd_T38 l0 x12_1).f4)], .agg #[.int .i64 a1_0, .int .i64 a1_1, .int .i64 a1_2, .int .i64 a1_3, .int .i64 a1_4]] rfl (by (try simp only [List.map_toArray, List.map_cons, List.map_nil]); first | done | rfl | (simp only [List.length_drop, List.length_take]; rfl)) ?_; (with_reducible refine (impl_SameSpot.calls ((rd_T38 l0 x12_1).f0) ((rd_T38 l0 x12_1).f1) ((rd_T38 l0 x12_1).f2) ((rd_T38 l0 x12_1).f3) ((rd_T38 l0 x12_1).f4) a1_0 a1_1 a1_2 a1_3 a1_4 true _ A38.out).mono ?_); rintro e w43 ⟨rfl, hb⟩; refine ⟨_, rfl, ?_⟩; have n0_ := aA.mk (Kd.bU (by (with_reducible repeat (first | apply Kd.aY | apply Kd.aZ | apply Kd.bA)); exact HO_5.out) hb); have n1_ := aA.mk (aV (g := gb318) (o := .cells #[.int .i64 a1_0, .int .i64 a1_1, .int .i64 a1_2, .int .i64 a1_3, .int .i64 a1_4] 38 (0, 0)) (by (with_reducible repeat (first | refine aN ?_ _ | refine aQ ?_ | refine aM ?_ _)); exact BK318.out) hb); have n2_ := aA.mk (aV (g := gb326) (o := .cells #[.int .i64 ((rd_T38 l0 x12_1).f0), .int .i64 ((rd_T38 l0 x12_1).f1), .int .i64 ((rd_T38 l0 x12_1).f2), .int .i64 ((rd_T38 l0 x12_1).f3), .int .i64 ((rd_T38 l0 x12_1).f4)] 38 (0, 0)) (by (with_reducible repeat (first | refine aN ?_ _ | refine aQ ?_ | refine aM ?_ _)); exact BK326.out) hb); have n3_ := aA.mk (aU (by repeat (first | (with_reducible first | exact HB.out | apply aH | apply aC | apply aG | refine aJ ?_ GE318.out | refine aJ ?_ GE326.out) | exact HB.out)) hb); clear HO_5; clear BK318; clear BK326; clear HB; have HO_5 := n0_; have BK318 := n1_; have BK326 := n2_; have HB := n3_; clear n0_ n1_ n2_ n3_; (try clear hb)))
          go_roundg kj8
          case measure => have := HK1.out; have := HJ8.out; omega
          case rel => exact ⟨(x5_1), (x6_1), (wrap64 (x12_1 + 1)), (by first | rfl | (simp; done) | (simp [*]; done)), (by first | rfl | (simp; done) | (simp [*]; done)), H', ⟨by have := HK1.out; have := HJ8.out; omega⟩, ⟨by (with_reducible repeat (first | apply Kd.aY | apply Kd.aZ | apply Kd.bA)); exact Kd.bK HO_5.out (fun _ hk => hk.1)⟩, ⟨by (with_reducible repeat (first | refine aN ?_ _ | refine aQ ?_ | refine aM ?_ _)); exact BK318.out⟩, ⟨by repeat (first | (with_reducible first | exact HB.out | apply aH | apply aC | apply aG | refine aJ ?_ GE318.out | refine aJ ?_ GE326.out) | exact HB.out)⟩⟩
         ·replace c39 := Bool.eq_false_iff.mpr c39
          subst c39
          have H1 : (if x5_1.length < 3518437208883 then (impl_SetPut.l0 kj8 (x5_1 ++ [(⟨((rd_T38 l0 x12_1).f0), ((rd_T38 l0 x12_1).f1), ((rd_T38 l0 x12_1).f2), ((rd_T38 l0 x12_1).f3), ((rd_T38 l0 x12_1).f4)⟩ : S38)]) x6_1 l0 (l0.length : Int) (wrap64 (x12_1 + 1)) a1_0 a1_1 a1_2 a1_3 a1_4) else (none)) = some r := by rw [if_neg (show ¬ (false = true) by decide)] at H; exact H
          clear H
          have H := H1
          clear H1
          by_cases c44 : x5_1.length < 3518437208883
          ·rw [if_pos c44] at H
           have LMc44 := aA.mk c44
           clear c44
           obtain ⟨y336, hy336⟩ : ∃ y_ : List (S38), y_ = (x5_1 ++ [(⟨((rd_T38 l0 x12_1).f0), ((rd_T38 l0 x12_1).f1), ((rd_T38 l0 x12_1).f2), ((rd_T38 l0 x12_1).f3), ((rd_T38 l0 x12_1).f4)⟩ : S38)]) := ⟨_, rfl⟩
           replace H : (impl_SetPut.l0 kj8 y336 x6_1 l0 (l0.length : Int) (wrap64 (x12_1 + 1)) a1_0 a1_1 a1_2 a1_3 a1_4) = some r := by first | (rw [hy336]; with_reducible exact H) | (have H2_ := (Option.bind_some _ _).symm.trans H; rw [hy336]; with_reducible exact H2_) | (have H2_ := (Option.bind_some _ _).symm.trans H; with_reducible exact H2_) | with_reducible exact H | (rw [hy336]; exact H) | exact H
           have Ny336 := aA.mk hy336
           clear hy336
           have H' := aA.mk H
           clear H
           have hnb45 := NB326_318.out
           have hnc45 := NB318_326.out
           have hcz46_0 : wc.cell? ⟨gb326, 0, none⟩ = some (.int .i64 ((rd_T38 l0 x12_1).f0)) := (aE BK326.out 0).trans rfl
           have hcz46_1 : wc.cell? ⟨gb326, 1, none⟩ = some (.int .i64 ((rd_T38 l0 x12_1).f1)) := (aE BK326.out 1).trans rfl
           have hcz46_2 : wc.cell? ⟨gb326, 2, none⟩ = some (.int .i64 ((rd_T38 l0 x12_1).f2)) := (aE BK326.out 2).trans rfl
           have hcz46_3 : wc.cell? ⟨gb326, 3, none⟩ = some (.int .i64 ((rd_T38 l0 x12_1).f3)) := (aE BK326.out 3).trans rfl
           have hcz46_4 : wc.cell? ⟨gb326, 4, none⟩ = some (.int .i64 ((rd_T38 l0 x12_1).f4)) := (aE BK326.out 4).trans rfl
           have hfz46_0 := aD BK326.out 0
           have hfz46_1 := aD BK326.out 1
           have hfz46_2 := aD BK326.out 2
           have hfz46_3 := aD BK326.out 3
           have hfz46_4 := aD BK326.out 4
           have hcz47_0 : wc.cell? ⟨gb318, 0, none⟩ = some (.int .i64 a1_0) := (aE BK318.out 0).trans rfl
           have hcz47_1 : wc.cell? ⟨gb318, 1, none⟩ = some (.int .i64 a1_1) := (aE BK318.out 1).trans rfl
           have hcz47_2 : wc.cell? ⟨gb318, 2, none⟩ = some (.int .i64 a1_2) := (aE BK318.out 2).trans rfl
           have hcz47_3 : wc.cell? ⟨gb318, 3, none⟩ = some (.int .i64 a1_3) := (aE BK318.out 3).trans rfl
           have hcz47_4 : wc.cell? ⟨gb318, 4, none⟩ = some (.int .i64 a1_4) := (aE BK318.out 4).trans rfl
           have hfz47_0 := aD BK318.out 0
           have hfz47_1 := aD BK318.out 1
           have hfz47_2 := aD BK318.out 2
           have hfz47_3 := aD BK318.out 3
           have hfz47_4 := aD BK318.out 4
           go_wp2_with (first | ((with_reducible refine bB (f := 102) rfl ?_); refine bP (some 30) rfl rfl Try.func102 (by kernel_rfl) rfl #[.agg #[.int .i64 ((rd_T38 l0 x12_1).f0), .int .i64 ((rd_T38 l0 x12_1).f1), .int .i64 ((rd_T38 l0 x12_1).f2), .int .i64 ((rd_T38 l0 x12_1).f3), .int .i64 ((rd_T38 l0 x12_1).f4)], .agg #[.int .i64 a1_0, .int .i64 a1_1, .int .i64 a1_2, .int .i64 a1_3, .int .i64 a1_4]] rfl (by (try simp only [List.map_toArray, List.map_cons, List.map_nil]); first | done | rfl | (simp only [List.length_drop, List.length_take]; rfl)) ?_; (with_reducible refine (impl_SameSpot.calls ((rd_T38 l0 x12_1).f0) ((rd_T38 l0 x12_1).f1) ((rd_T38 l0 x12_1).f2) ((rd_T38 l0 x12_1).f3) ((rd_T38 l0 x12_1).f4) a1_0 a1_1 a1_2 a1_3 a1_4 false _ A38.out).mono ?_); rintro e w48 ⟨rfl, hb⟩; refine ⟨_, rfl, ?_⟩; have n0_ := aA.mk (Kd.bU (by (with_reducible repeat (first | apply Kd.aY | apply Kd.aZ | apply Kd.bA)); exact HO_5.out) hb); have n1_ := aA.mk (aV (g := gb318) (o := .cells #[.int .i64 a1_0, .int .i64 a1_1, .int .i64 a1_2, .int .i64 a1_3, .int .i64 a1_4] 38 (0, 0)) (by (with_reducible repeat (first | refine aN ?_ _ | refine aQ ?_ | refine aM ?_ _)); exact BK318.out) hb); have n2_ := aA.mk (aV (g := gb326) (o := .cells #[.int .i64 ((rd_T38 l0 x12_1).f0), .int .i64 ((rd_T38 l0 x12_1).f1), .int .i64 ((rd_T38 l0 x12_1).f2), .int .i64 ((rd_T38 l0 x12_1).f3), .int .i64 ((rd_T38 l0 x12_1).f4)] 38 (0, 0)) (by (with_reducible repeat (first | refine aN ?_ _ | refine aQ ?_ | refine aM ?_ _)); exact BK326.out) hb); have n3_ := aA.mk (aU (by repeat (first | (with_reducible first | exact HB.out | apply aH | apply aC | apply aG | refine aJ ?_ GE318.out | refine aJ ?_ GE326.out) | exact HB.out)) hb); clear HO_5; clear BK318; clear BK326; clear HB; have HO_5 := n0_; have BK318 := n1_; have BK326 := n2_; have HB := n3_; clear n0_ n1_ n2_ n3_; (try clear hb); (try clear hk); have hcz49_0 : w48.cell? ⟨gb326, 0, none⟩ = some (.int .i64 ((rd_T38 l0 x12_1).f0)) := (aE BK326.out 0).trans rfl; have hcz49_1 : w48.cell? ⟨gb326, 1, none⟩ = some (.int .i64 ((rd_T38 l0 x12_1).f1)) := (aE BK326.out 1).trans rfl; have hcz49_2 : w48.cell? ⟨gb326, 2, none⟩ = some (.int .i64 ((rd_T38 l0 x12_1).f2)) := (aE BK326.out 2).trans rfl; have hcz49_3 : w48.cell? ⟨gb326, 3, none⟩ = some (.int .i64 ((rd_T38 l0 x12_1).f3)) := (aE BK326.out 3).trans rfl; have hcz49_4 : w48.cell? ⟨gb326, 4, none⟩ = some (.int .i64 ((rd_T38 l0 x12_1).f4)) := (aE BK326.out 4).trans rfl; have hfz49_0 := aD BK326.out 0; have hfz49_1 := aD BK326.out 1; have hfz49_2 := aD BK326.out 2; have hfz49_3 := aD BK326.out 3; have hfz49_4 := aD BK326.out 4) | ((with_reducible refine gate_builtin (b := .append) (xs := #[.tmp 32, .tmp 34]) rfl ?_); at_builtin; refine Kd.R_append k38 (w0 := w) w.heap.size rfl (.tmp 32) (.tmp 34) 45 38 (.agg #[(.int .i64 0), (.int .i64 0), (.int .i64 0), (.int .i64 0), (.int .i64 0)]) 40 rfl Try.underlying45 info38 rfl (by decide) (by omega) u5 x5_1 (⟨((rd_T38 l0 x12_1).f0), ((rd_T38 l0 x12_1).f1), ((rd_T38 l0 x12_1).f2), ((rd_T38 l0 x12_1).f3), ((rd_T38 l0 x12_1).f4)⟩ : S38) [.int .i64 ((rd_T38 l0 x12_1).f0), .int .i64 ((rd_T38 l0 x12_1).f1), .int .i64 ((rd_T38 l0 x12_1).f2), .int .i64 ((rd_T38 l0 x12_1).f3), .int .i64 ((rd_T38 l0 x12_1).f4)] (fun k_ => k_ ≠ gb318 ∧ k_ ≠ gb326) (fun _ => False) rfl rfl ?aP (fun _ hk => hk.elim) ?aF ?aO ?aB ?aS ?aL ?_; (case aP => exact k38_mkM _ _ _ (⟨((rd_T38 l0 x12_1).f0), ((rd_T38 l0 x12_1).f1), ((rd_T38 l0 x12_1).f2), ((rd_T38 l0 x12_1).f3), ((rd_T38 l0 x12_1).f4)⟩ : S38)); (case aB => exact (by repeat (first | (with_reducible first | exact HB.out | apply aH | apply aC | apply aG | refine aJ ?_ GE318.out | refine aJ ?_ GE326.out) | exact HB.out))); (case aF => exact (fun k_ hk => ⟨Kd.freshB (g := gb318) (o := .cells #[.int .i64 a1_0, .int .i64 a1_1, .int .i64 a1_2, .int .i64 a1_3, .int .i64 a1_4] 38 (0, 0)) (by (with_reducible repeat (first | refine aN ?_ _ | refine aQ ?_ | refine aM ?_ _)); exact BK318.out) k_ hk, Kd.freshB (g := gb326) (o := .cells #[.int .i64 ((rd_T38 l0 x12_1).f0), .int .i64 ((rd_T38 l0 x12_1).f1), .int .i64 ((rd_T38 l0 x12_1).f2), .int .i64 ((rd_T38 l0 x12_1).f3), .int .i64 ((rd_T38 l0 x12_1).f4)] 38 (0, 0)) (by (with_reducible repeat (first | refine aN ?_ _ | refine aQ ?_ | refine aM ?_ _)); exact BK326.out) k_ hk⟩)); (case aO => exact (by (with_reducible repeat (first | apply Kd.aY | apply Kd.aZ | apply Kd.bA)); exact HO_5.out)); (case aS => exact (aT (by repeat (first | (with_reducible first | exact HB.out | apply aH | apply aC | apply aG | refine aJ ?_ GE318.out | refine aJ ?_ GE326.out) | exact HB.out)))); (case aL => have := LMc44.out; omega); intro v337 w50 ho hb hg hat; rw [← Ny336.out] at ho; have n0_ := aA.mk (blk_grown (g := gb318) (o := .cells #[.int .i64 a1_0, .int .i64 a1_1, .int .i64 a1_2, .int .i64 a1_3, .int .i64 a1_4] 38 (0, 0)) (by (with_reducible repeat (first | refine aN ?_ _ | refine aQ ?_ | refine aM ?_ _)); exact BK318.out) hg (Kd.R_away HO_5.out (fun _ hk => hk.1))); have n1_ := aA.mk (blk_grown (g := gb326) (o := .cells #[.int .i64 ((rd_T38 l0 x12_1).f0), .int .i64 ((rd_T38 l0 x12_1).f1), .int .i64 ((rd_T38 l0 x12_1).f2), .int .i64 ((rd_T38 l0 x12_1).f3), .int .i64 ((rd_T38 l0 x12_1).f4)] 38 (0, 0)) (by (with_reducible repeat (first | refine aN ?_ _ | refine aQ ?_ | refine aM ?_ _)); exact BK326.out) hg (Kd.R_away HO_5.out (fun _ hk => hk.2))); have n2_ := aA.mk (hb); have n3_ := aA.mk (ho); clear BK318; clear BK326; clear HB; clear HO_5; have BK318 := n0_; have BK326 := n1_; have HB := n2_; have HO338 := n3_; clear n0_ n1_ n2_ n3_; clear ho hb hg hat))
           go_roundg kj8
           case measure => have := HK1.out; have := HJ8.out; omega
           case rel => exact ⟨(y336), (x6_1), (wrap64 (x12_1 + 1)), (by first | rfl | (simp; done) | (simp [*]; done)), (by first | rfl | (simp; done) | (simp [*]; done)), H', ⟨by have := HK1.out; have := HJ8.out; omega⟩, ⟨by (with_reducible repeat (first | apply Kd.aY | apply Kd.aZ | apply Kd.bA)); exact Kd.bK HO338.out (fun _ hk => hk.1)⟩, ⟨by (with_reducible repeat (first | refine aN ?_ _ | refine aQ ?_ | refine aM ?_ _)); exact BK318.out⟩, ⟨by repeat (first | (with_reducible first | exact HB.out | apply aH | apply aC | apply aG | refine aJ ?_ GE318.out | refine aJ ?_ GE326.out) | exact HB.out)⟩⟩
          ·rw [if_neg c44] at H
           exact absurd H (by simp)
     ·rw [if_neg c8] at H
      exact absurd H (by simp)
    ·rw [if_neg c7] at H
     exact absurd H (by simp)
   ·rw [if_neg c6] at H
    have c6b0 : decide (x12_1 < (l0.length : Int)) = false := decide_eq_false c6
    clear c6
    by_cases c51 : x6_1 = true
    ·subst c51
     have H1 : (some x5_1) = some r := by rw [if_pos rfl] at H; exact H
     clear H
     have H := H1
     clear H1
     obtain rfl := Option.some.inj H
     go_wp2
     go_ret
     exact ⟨_, by first | rfl | (simp [errW_none, errW_some] <;> rfl) | (simp [*, errW_none, errW_some] <;> rfl), by (with_reducible repeat (first | apply Kd.aY | apply Kd.aZ | apply Kd.bA)); exact Kd.bK HO_5.out (fun _ hk => trivial), by repeat (first | (with_reducible first | exact HB.out | apply aH | apply aC | apply aG | refine aJ ?_ GE318.out) | exact HB.out)⟩
    ·replace c51 := Bool.eq_false_iff.mpr c51
     subst c51
     have H1 : (if x5_1.length < 3518437208883 then (some (x5_1 ++ [(⟨a1_0, a1_1, a1_2, a1_3, a1_4⟩ : S38)])) else (none)) = some r := by rw [if_neg (show ¬ (false = true) by decide)] at H; exact H
     clear H
     have H := H1
     clear H1
     by_cases c52 : x5_1.length < 3518437208883
     ·rw [if_pos c52] at H
      have LMc52 := aA.mk c52
      clear c52
      obtain ⟨y322, hy322⟩ : ∃ y_ : List (S38), y_ = (x5_1 ++ [(⟨a1_0, a1_1, a1_2, a1_3, a1_4⟩ : S38)]) := ⟨_, rfl⟩
      replace H : (some y322) = some r := by first | (rw [hy322]; with_reducible exact H) | (have H2_ := (Option.bind_some _ _).symm.trans H; rw [hy322]; with_reducible exact H2_) | (have H2_ := (Option.bind_some _ _).symm.trans H; with_reducible exact H2_) | with_reducible exact H | (rw [hy322]; exact H) | exact H
      have Ny322 := aA.mk hy322
      clear hy322
      obtain rfl := Option.some.inj H
      have hcz53_0 : wr.cell? ⟨gb318, 0, none⟩ = some (.int .i64 a1_0) := (aE BK318.out 0).trans rfl
      have hcz53_1 : wr.cell? ⟨gb318, 1, none⟩ = some (.int .i64 a1_1) := (aE BK318.out 1).trans rfl
      have hcz53_2 : wr.cell? ⟨gb318, 2, none⟩ = some (.int .i64 a1_2) := (aE BK318.out 2).trans rfl
      have hcz53_3 : wr.cell? ⟨gb318, 3, none⟩ = some (.int .i64 a1_3) := (aE BK318.out 3).trans rfl
      have hcz53_4 : wr.cell? ⟨gb318, 4, none⟩ = some (.int .i64 a1_4) := (aE BK318.out 4).trans rfl
      have hfz53_0 := aD BK318.out 0
      have hfz53_1 := aD BK318.out 1
      have hfz53_2 := aD BK318.out 2
      have hfz53_3 := aD BK318.out 3
      have hfz53_4 := aD BK318.out 4
      go_wp2_with (first | ((with_reducible refine gate_builtin (b := .append) (xs := #[.tmp 39, .tmp 41]) rfl ?_); at_builtin; refine Kd.R_append k38 (w0 := w) w.heap.size rfl (.tmp 39) (.tmp 41) 45 38 (.agg #[(.int .i64 0), (.int .i64 0), (.int .i64 0), (.int .i64 0), (.int .i64 0)]) 40 rfl Try.underlying45 info38 rfl (by decide) (by omega) u5 x5_1 (⟨a1_0, a1_1, a1_2, a1_3, a1_4⟩ : S38) [.int .i64 a1_0, .int .i64 a1_1, .int .i64 a1_2, .int .i64 a1_3, .int .i64 a1_4] (fun k_ => k_ ≠ gb318) (fun _ => False) rfl rfl ?aP (fun _ hk => hk.elim) ?aF ?aO ?aB ?aS ?aL ?_; (case aP => exact k38_mkM _ _ _ (⟨a1_0, a1_1, a1_2, a1_3, a1_4⟩ : S38)); (case aB => exact (by repeat (first | (with_reducible first | exact HB.out | apply aH | apply aC | apply aG | refine aJ ?_ GE318.out) | exact HB.out))); (case aF => exact (fun k_ hk => Kd.freshB (g := gb318) (o := .cells #[.int .i64 a1_0, .int .i64 a1_1, .int .i64 a1_2, .int .i64 a1_3, .int .i64 a1_4] 38 (0, 0)) (by (with_reducible repeat (first | refine aN ?_ _ | refine aQ ?_ | refine aM ?_ _)); exact BK318.out) k_ hk)); (case aO => exact (by (with_reducible repeat (first | apply Kd.aY | apply Kd.aZ | apply Kd.bA)); exact HO_5.out)); (case aS => exact (aT (by repeat (first | (with_reducible first | exact HB.out | apply aH | apply aC | apply aG | refine aJ ?_ GE318.out) | exact HB.out)))); (case aL => have := LMc52.out; omega); intro v323 w54 ho hb hg hat; rw [← Ny322.out] at ho; have n0_ := aA.mk (blk_grown (g := gb318) (o := .cells #[.int .i64 a1_0, .int .i64 a1_1, .int .i64 a1_2, .int .i64 a1_3, .int .i64 a1_4] 38 (0, 0)) (by (with_reducible repeat (first | refine aN ?_ _ | refine aQ ?_ | refine aM ?_ _)); exact BK318.out) hg (Kd.R_away HO_5.out (fun _ hk => hk))); have n1_ := aA.mk (hb); have n2_ := aA.mk (ho); clear BK318; clear HB; clear HO_5; have BK318 := n0_; have HB := n1_; have HO324 := n2_; clear n0_ n1_ n2_; clear ho hb hg hat))
      go_ret
      exact ⟨_, by first | rfl | (simp [errW_none, errW_some] <;> rfl) | (simp [*, errW_none, errW_some] <;> rfl), by (with_reducible repeat (first | apply Kd.aY | apply Kd.aZ | apply Kd.bA)); exact Kd.bK HO324.out (fun _ hk => trivial), by repeat (first | (with_reducible first | exact HB.out | apply aH | apply aC | apply aG | refine aJ ?_ GE318.out) | exact HB.out)⟩
     ·rw [if_neg c52] at H
      exact absurd H (by simp)
def impl_MergeSets.l0 : Nat → List (S38) → List (S38) → Int → Int → Option ((List (S38)))
 | 0, _, _, _, _ => none
 | k + 1, x5, x10, x11, x12 => if x12 < x11 then (if 0 ≤ x12 then (if x12 < (x10.length : Int) then ((impl_SetPut.f k x5 ((rd_T38 x10 x12).f0) ((rd_T38 x10 x12).f1) ((rd_T38 x10 x12).f2) ((rd_T38 x10 x12).f3) ((rd_T38 x10 x12).f4)).bind fun t344 => (impl_MergeSets.l0 k t344 x10 x11 (wrap64 (x12 + 1)))) else (none)) else (none)) else (some x5)
def impl_MergeSets.f (k : Nat) (l0 : List (S38)) (l1 : List (S38)) : Option ((List (S38))) := (impl_copyKeys.f l0).bind fun t339 => (impl_MergeSets.l0 k t339 l1 (l1.length : Int) 0)
set_option maxHeartbeats 8000000 in
set_option maxRecDepth 100000 in
theorem impl_MergeSets.calls (k : Nat) (A0 : Option Addr) (c0 : Nat) (l0 : List (S38)) (A1 : Option Addr) (c1 : Nat) (l1 : List (S38)) (r : List (S38)) (w : World) (hr0 : Kd.C k38 w A0 l0.length l0) (hc0 : l0.length ≤ c0) (hr1 : Kd.C k38 w A1 l1.length l1) (hc1 : l1.length ≤ c1) (h : impl_MergeSets.f k l0 l1 = some r) :
  Calls Try.prog 78 #[.slice A0 l0.length c0, .slice A1 l1.length c1] w fun e w' => ∃ v0_ : Value, e = .returned (v0_) ∧ Kd.R k38 38 w' w.heap.size (fun _ => True) v0_ r ∧ Below w.heap.size w w' := by
 have hu38 := Try.underlying38
 have HR0 := aA.mk hr0
 have HC0 := aA.mk hc0
 clear hr0 hc0
 have HR1 := aA.mk hr1
 have HC1 := aA.mk hc1
 clear hr1 hc1
 have HB := aA.mk (Below.refl w.heap.size w)
 have H : ((impl_copyKeys.f l0).bind fun t339 => (impl_MergeSets.l0 k t339 l1 (l1.length : Int) 0)) = some r := h
 clear h
 replace H := lF H
 obtain ⟨t339, A30, H⟩ := H
 replace H : (impl_MergeSets.l0 k t339 l1 (l1.length : Int) 0) = some r := H
 have A3 := aA.mk A30
 clear A30
 have H' := aA.mk H
 clear H
 go_enter Try.func78, Try.ntmps78
 go_wp2_with (first | ((with_reducible refine bB (f := 91) rfl ?_); refine bP (some 9) rfl rfl Try.func91 (by kernel_rfl) rfl #[.slice A0 l0.length c0] rfl (by (try simp only [List.map_toArray, List.map_cons, List.map_nil]); first | done | rfl | (simp only [List.length_drop, List.length_take]; rfl)) ?_; (with_reducible refine (impl_copyKeys.calls _ _ l0 t339 _ ?side1 ?side2 A3.out).mono ?_); (case side1 => repeat (first | exact HR0.out | (with_reducible refine Kd.bM ?_ _) | (with_reducible refine Kd.bN ?_ _) | (with_reducible refine Kd.bR ?_))); (case side2 => exact HC0.out); rintro e w4 ⟨v340, rfl, ho0, hb⟩; refine ⟨_, rfl, ?_⟩; have n0_ := aA.mk (Kd.R_lower ho0 (aT (by repeat (first | (with_reducible first | exact HB.out | apply aH | apply aC | apply aG) | exact HB.out)))); have n1_ := aA.mk (aU (by repeat (first | (with_reducible first | exact HB.out | apply aH | apply aC | apply aG) | exact HB.out)) hb); clear HB; have HO341 := n0_; have HB := n1_; clear n0_ n1_; (try clear hb); (try clear ho0)))
 go_loopg [5, 12] k (fun kq v5 v12 w' => ∃ (x5_1 : List (S38)) (x12_1 : Int), v12 = .int .i64 x12_1 ∧ aA (impl_MergeSets.l0 kq x5_1 l1 (l1.length : Int) x12_1 = some r) ∧ aA (kq ≤ k) ∧ aA (Kd.R k38 38 w' w.heap.size (fun _ => True) v5 x5_1) ∧ aA (Below w.heap.size w w'))
 case atStart => exact ⟨(t339), (0), (by first | rfl | (simp; done) | (simp [*]; done)), H', ⟨Nat.le_refl _⟩, ⟨by (with_reducible repeat (first | apply Kd.aY | apply Kd.aZ | apply Kd.bA)); exact HO341.out⟩, ⟨by repeat (first | (with_reducible first | exact HB.out | apply aH | apply aC | apply aG) | exact HB.out)⟩⟩
 case round =>
  clear H'
  try clear c1
  try clear p2
  obtain ⟨x5_1, x12_1, rfl, HA, HK1, HO_5, HB⟩ := hrel
  cases gk with
  | zero => exact absurd HA.out (by simp [impl_MergeSets.l0])
  | succ k1 =>
   have H := HA.out
   clear HA
   simp only [impl_MergeSets.l0] at H
   by_cases c5 : x12_1 < (l1.length : Int)
   ·rw [if_pos c5] at H
    have c5b0 : decide (x12_1 < (l1.length : Int)) = true := decide_eq_true c5
    clear c5
    by_cases c6 : 0 ≤ x12_1
    ·rw [if_pos c6] at H
     have c6b0 : decide (0 ≤ x12_1) = true := decide_eq_true c6
     clear c6
     by_cases c7 : x12_1 < (l1.length : Int)
     ·rw [if_pos c7] at H
      have c7b0 : decide (x12_1 < (l1.length : Int)) = true := decide_eq_true c7
      clear c7
      replace H := lF H
      obtain ⟨t344, A80, H⟩ := H
      replace H : (impl_MergeSets.l0 k1 t344 l1 (l1.length : Int) (wrap64 (x12_1 + 1))) = some r := H
      have A8 := aA.mk A80
      clear A80
      have H' := aA.mk H
      clear H
      have p342 : 0 ≤ (x12_1 : Int) := lE (by first | (with_reducible assumption) | assumption)
      have q342 : x12_1 < (l1.length : Int) := lE (by first | (with_reducible assumption) | assumption)
      obtain ⟨ad342, e342, hx342_0, hx342_1, hx342_2, hx342_3, hx342_4⟩ := at_T38 HR1.out x12_1 p342 q342
      cases e342
      replace hx342_0 := (HB.out.cell (lD w _ hx342_0)).trans hx342_0
      replace hx342_1 := (HB.out.cell (lD w _ hx342_1)).trans hx342_1
      replace hx342_2 := (HB.out.cell (lD w _ hx342_2)).trans hx342_2
      replace hx342_3 := (HB.out.cell (lD w _ hx342_3)).trans hx342_3
      replace hx342_4 := (HB.out.cell (lD w _ hx342_4)).trans hx342_4
      replace p342 := eq_true p342
      replace q342 := eq_true q342
      go_wp2_with (first | ((with_reducible refine aW (N := 7) rfl ?_); refine aX ?hg (N := 7) ?hd (cs := #[.int .i64 0, .int .i64 0, .int .i64 0, .int .i64 0, .int .i64 0]) (t := 38) ?hr ?_; (case hd => rfl); (case hg => rfl); (case hr => first | (go_simp; done) | (go_simp; rfl)); intro gb343 hg w9 hbox hb; have n0_ := aA.mk (Kd.bU (Kd.R_elderB (by (with_reducible repeat (first | apply Kd.aY | apply Kd.aZ | apply Kd.bA)); exact HO_5.out) gb343 (Nat.le_of_eq hg.symm)) hb); have n1_ := aA.mk (aU (by repeat (first | (with_reducible first | exact HB.out | apply aH | apply aC | apply aG) | exact HB.out)) hb); have n2_ := aA.mk (hbox); have n3_ := aA.mk ((by rw [hg]; exact (aT (by repeat (first | (with_reducible first | exact HB.out | apply aH | apply aC | apply aG) | exact HB.out))) : w.heap.size ≤ gb343)); have n4_ := aA.mk ((by rw [hg]; exact (aT (by repeat (first | (with_reducible first | exact HB.out | apply aH | apply aC | apply aG) | exact HB.out))) : w.heap.size ≤ gb343)); clear HO_5; clear HB; have HO_5 := n0_; have HB := n1_; have BK343 := n2_; have GW343 := n3_; have GE343 := n4_; clear n0_ n1_ n2_ n3_ n4_; clear hb hbox hg; have hcz10_0 : w9.cell? ⟨gb343, 0, none⟩ = some (.int .i64 0) := (aE BK343.out 0).trans rfl; have hcz10_1 : w9.cell? ⟨gb343, 1, none⟩ = some (.int .i64 0) := (aE BK343.out 1).trans rfl; have hcz10_2 : w9.cell? ⟨gb343, 2, none⟩ = some (.int .i64 0) := (aE BK343.out 2).trans rfl; have hcz10_3 : w9.cell? ⟨gb343, 3, none⟩ = some (.int .i64 0) := (aE BK343.out 3).trans rfl; have hcz10_4 : w9.cell? ⟨gb343, 4, none⟩ = some (.int .i64 0) := (aE BK343.out 4).trans rfl; have hfz10_0 := aD BK343.out 0; have hfz10_1 := aD BK343.out 1; have hfz10_2 := aD BK343.out 2; have hfz10_3 := aD BK343.out 3; have hfz10_4 := aD BK343.out 4; obtain ⟨Ao11, co11, eo11⟩ := Kd.R_slice HO_5.out; subst eo11) | ((with_reducible refine bB (f := 90) rfl ?_); refine bP (some 18) rfl rfl Try.func90 (by kernel_rfl) rfl #[.slice Ao11 x5_1.length co11, .agg #[.int .i64 ((rd_T38 l1 x12_1).f0), .int .i64 ((rd_T38 l1 x12_1).f1), .int .i64 ((rd_T38 l1 x12_1).f2), .int .i64 ((rd_T38 l1 x12_1).f3), .int .i64 ((rd_T38 l1 x12_1).f4)]] rfl (by (try simp only [List.map_toArray, List.map_cons, List.map_nil]); first | done | rfl | (simp only [List.length_drop, List.length_take]; rfl)) ?_; (with_reducible refine (impl_SetPut.calls k1 _ _ x5_1 ((rd_T38 l1 x12_1).f0) ((rd_T38 l1 x12_1).f1) ((rd_T38 l1 x12_1).f2) ((rd_T38 l1 x12_1).f3) ((rd_T38 l1 x12_1).f4) t344 _ ?side1 ?side2 A8.out).mono ?_); (case side1 => refine (Kd.R_reads' (e := 38) (base := w.heap.size) (ok := fun k_ => (True ∧ k_ ≠ gb343)) (n := x5_1.length) (c := co11) ?_).2.2; exact (by (with_reducible repeat (first | apply Kd.aY | apply Kd.aZ | apply Kd.bA)); exact (Kd.bK (Kd.R_far (p := ⟨gb343, 4, none⟩) (Kd.R_far (p := ⟨gb343, 3, none⟩) (Kd.R_far (p := ⟨gb343, 2, none⟩) (Kd.R_far (p := ⟨gb343, 1, none⟩) (Kd.R_far (p := ⟨gb343, 0, none⟩) (Kd.bK HO_5.out (fun k_ hk => (⟨hk, hk.2⟩ : _ ∧ k_ ≠ gb343))) (fun _ hk => hk.2) (.int .i64 ((rd_T38 l1 x12_1).f0))) (fun _ hk => hk.2) (.int .i64 ((rd_T38 l1 x12_1).f1))) (fun _ hk => hk.2) (.int .i64 ((rd_T38 l1 x12_1).f2))) (fun _ hk => hk.2) (.int .i64 ((rd_T38 l1 x12_1).f3))) (fun _ hk => hk.2) (.int .i64 ((rd_T38 l1 x12_1).f4))) (fun _ h_ => h_.1)))); (case side2 => exact (Kd.R_reads' HO_5.out).2.1); rintro e w12 ⟨v345, rfl, ho0, hb⟩; refine ⟨_, rfl, ?_⟩; have n0_ := aA.mk (Kd.R_elder' (by (with_reducible repeat (first | apply Kd.aY | apply Kd.aZ | apply Kd.bA)); exact (Kd.bK (Kd.R_far (p := ⟨gb343, 4, none⟩) (Kd.R_far (p := ⟨gb343, 3, none⟩) (Kd.R_far (p := ⟨gb343, 2, none⟩) (Kd.R_far (p := ⟨gb343, 1, none⟩) (Kd.R_far (p := ⟨gb343, 0, none⟩) (Kd.bK HO_5.out (fun k_ hk => (⟨hk, hk.2⟩ : _ ∧ k_ ≠ gb343))) (fun _ hk => hk.2) (.int .i64 ((rd_T38 l1 x12_1).f0))) (fun _ hk => hk.2) (.int .i64 ((rd_T38 l1 x12_1).f1))) (fun _ hk => hk.2) (.int .i64 ((rd_T38 l1 x12_1).f2))) (fun _ hk => hk.2) (.int .i64 ((rd_T38 l1 x12_1).f3))) (fun _ hk => hk.2) (.int .i64 ((rd_T38 l1 x12_1).f4))) (fun _ h_ => h_.1))) (Kd.R_base ho0) hb); have n1_ := aA.mk (Kd.R_lower (Kd.R_newB (Kd.R_new' ho0 (Kd.R_lt (by (with_reducible repeat (first | apply Kd.aY | apply Kd.aZ | apply Kd.bA)); exact (Kd.bK (Kd.R_far (p := ⟨gb343, 4, none⟩) (Kd.R_far (p := ⟨gb343, 3, none⟩) (Kd.R_far (p := ⟨gb343, 2, none⟩) (Kd.R_far (p := ⟨gb343, 1, none⟩) (Kd.R_far (p := ⟨gb343, 0, none⟩) (Kd.bK HO_5.out (fun k_ hk => (⟨hk, hk.2⟩ : _ ∧ k_ ≠ gb343))) (fun _ hk => hk.2) (.int .i64 ((rd_T38 l1 x12_1).f0))) (fun _ hk => hk.2) (.int .i64 ((rd_T38 l1 x12_1).f1))) (fun _ hk => hk.2) (.int .i64 ((rd_T38 l1 x12_1).f2))) (fun _ hk => hk.2) (.int .i64 ((rd_T38 l1 x12_1).f3))) (fun _ hk => hk.2) (.int .i64 ((rd_T38 l1 x12_1).f4))) (fun _ h_ => h_.1))))) (g := gb343) (o := .cells #[.int .i64 ((rd_T38 l1 x12_1).f0), .int .i64 ((rd_T38 l1 x12_1).f1), .int .i64 ((rd_T38 l1 x12_1).f2), .int .i64 ((rd_T38 l1 x12_1).f3), .int .i64 ((rd_T38 l1 x12_1).f4)] 38 (0, 0)) (by (with_reducible repeat (first | refine aN ?_ _ | refine aQ ?_ | refine aM ?_ _)); refine bG (cs := #[.int .i64 ((rd_T38 l1 x12_1).f0), .int .i64 ((rd_T38 l1 x12_1).f1), .int .i64 ((rd_T38 l1 x12_1).f2), .int .i64 ((rd_T38 l1 x12_1).f3), .int .i64 0]) ?_ 4 _ rfl; (with_reducible repeat (first | refine aN ?_ _ | refine aQ ?_ | refine aM ?_ _)); refine bG (cs := #[.int .i64 ((rd_T38 l1 x12_1).f0), .int .i64 ((rd_T38 l1 x12_1).f1), .int .i64 ((rd_T38 l1 x12_1).f2), .int .i64 0, .int .i64 0]) ?_ 3 _ rfl; (with_reducible repeat (first | refine aN ?_ _ | refine aQ ?_ | refine aM ?_ _)); refine bG (cs := #[.int .i64 ((rd_T38 l1 x12_1).f0), .int .i64 ((rd_T38 l1 x12_1).f1), .int .i64 0, .int .i64 0, .int .i64 0]) ?_ 2 _ rfl; (with_reducible repeat (first | refine aN ?_ _ | refine aQ ?_ | refine aM ?_ _)); refine bG (cs := #[.int .i64 ((rd_T38 l1 x12_1).f0), .int .i64 0, .int .i64 0, .int .i64 0, .int .i64 0]) ?_ 1 _ rfl; (with_reducible repeat (first | refine aN ?_ _ | refine aQ ?_ | refine aM ?_ _)); refine bG (cs := #[.int .i64 0, .int .i64 0, .int .i64 0, .int .i64 0, .int .i64 0]) ?_ 0 _ rfl; (with_reducible repeat (first | refine aN ?_ _ | refine aQ ?_ | refine aM ?_ _)); exact BK343.out)) (aT (by repeat (first | (with_reducible first | exact HB.out | apply aH | apply aC | apply aG | refine aJ ?_ GE343.out) | exact HB.out)))); have n2_ := aA.mk (aV (g := gb343) (o := .cells #[.int .i64 ((rd_T38 l1 x12_1).f0), .int .i64 ((rd_T38 l1 x12_1).f1), .int .i64 ((rd_T38 l1 x12_1).f2), .int .i64 ((rd_T38 l1 x12_1).f3), .int .i64 ((rd_T38 l1 x12_1).f4)] 38 (0, 0)) (by (with_reducible repeat (first | refine aN ?_ _ | refine aQ ?_ | refine aM ?_ _)); refine bG (cs := #[.int .i64 ((rd_T38 l1 x12_1).f0), .int .i64 ((rd_T38 l1 x12_1).f1), .int .i64 ((rd_T38 l1 x12_1).f2), .int .i64 ((rd_T38 l1 x12_1).f3), .int .i64 0]) ?_ 4 _ rfl; (with_reducible repeat (first | refine aN ?_ _ | refine aQ ?_ | refine aM ?_ _)); refine bG (cs := #[.int .i64 ((rd_T38 l1 x12_1).f0), .int .i64 ((rd_T38 l1 x12_1).f1), .int .i64 ((rd_T38 l1 x12_1).f2), .int .i64 0, .int .i64 0]) ?_ 3 _ rfl; (with_reducible repeat (first | refine aN ?_ _ | refine aQ ?_ | refine aM ?_ _)); refine bG (cs := #[.int .i64 ((rd_T38 l1 x12_1).f0), .int .i64 ((rd_T38 l1 x12_1).f1), .int .i64 0, .int .i64 0, .int .i64 0]) ?_ 2 _ rfl; (with_reducible repeat (first | refine aN ?_ _ | refine aQ ?_ | refine aM ?_ _)); refine bG (cs := #[.int .i64 ((rd_T38 l1 x12_1).f0), .int .i64 0, .int .i64 0, .int .i64 0, .int .i64 0]) ?_ 1 _ rfl; (with_reducible repeat (first | refine aN ?_ _ | refine aQ ?_ | refine aM ?_ _)); refine bG (cs := #[.int .i64 0, .int .i64 0, .int .i64 0, .int .i64 0, .int .i64 0]) ?_ 0 _ rfl; (with_reducible repeat (first | refine aN ?_ _ | refine aQ ?_ | refine aM ?_ _)); exact BK343.out) hb); have n3_ := aA.mk (aU (by repeat (first | (with_reducible first | exact HB.out | apply aH | apply aC | apply aG | refine aJ ?_ GE343.out) | exact HB.out)) hb); clear HO_5; clear BK343; clear HB; have HO_5 := n0_; have HO346 := n1_; have BK343 := n2_; have HB := n3_; clear n0_ n1_ n2_ n3_; (try clear hb); (try clear hk); (try clear ho0)))
      go_roundg k1
      case measure => have := HK1.out; omega
      case rel => exact ⟨(t344), (wrap64 (x12_1 + 1)), (by first | rfl | (simp; done) | (simp [*]; done)), H', ⟨by have := HK1.out; omega⟩, ⟨by (with_reducible repeat (first | apply Kd.aY | apply Kd.aZ | apply Kd.bA)); exact Kd.bK HO346.out (fun _ hk => trivial)⟩, ⟨by repeat (first | (with_reducible first | exact HB.out | apply aH | apply aC | apply aG | refine aJ ?_ GE343.out) | exact HB.out)⟩⟩
     ·rw [if_neg c7] at H
      exact absurd H (by simp)
    ·rw [if_neg c6] at H
     exact absurd H (by simp)
   ·rw [if_neg c5] at H
    have c5b0 : decide (x12_1 < (l1.length : Int)) = false := decide_eq_false c5
    clear c5
    obtain rfl := Option.some.inj H
    go_wp2
    go_ret
    exact ⟨_, by first | rfl | (simp [errW_none, errW_some] <;> rfl) | (simp [*, errW_none, errW_some] <;> rfl), by (with_reducible repeat (first | apply Kd.aY | apply Kd.aZ | apply Kd.bA)); exact HO_5.out, by repeat (first | (with_reducible first | exact HB.out | apply aH | apply aC | apply aG) | exact HB.out)⟩
def impl_Drop.l0 : Nat → List (S38) → List (S38) → Int → Int → Option ((List (S38)))
 | 0, _, _, _, _ => none
 | k + 1, x3, x7, x8, x9 => if x9 < x8 then (if 0 ≤ x9 then (if x9 < (x7.length : Int) then (if ((rd_T38 x7 x9).f2) = 0 then (impl_Drop.l0 k x3 x7 x8 (wrap64 (x9 + 1))) else (if x3.length < 3518437208883 then (impl_Drop.l0 k (x3 ++ [(⟨(rd_T38 x7 x9).f0, (rd_T38 x7 x9).f1, (rd_T38 x7 x9).f2, (rd_T38 x7 x9).f3, (rd_T38 x7 x9).f4⟩ : S38)]) x7 x8 (wrap64 (x9 + 1))) else (none))) else (none)) else (none)) else (some x3)
def impl_Drop.f (k : Nat) (l0 : List (S38)) : Option ((List (S38))) := impl_Drop.l0 k (([] : List (S38))) l0 (l0.length : Int) 0
set_option maxHeartbeats 8000000 in
set_option maxRecDepth 100000 in
theorem impl_Drop.calls (k : Nat) (A0 : Option Addr) (c0 : Nat) (l0 : List (S38)) (r : List (S38)) (w : World) (hr0 : Kd.C k38 w A0 l0.length l0) (hc0 : l0.length ≤ c0) (h : impl_Drop.f k l0 = some r) :
  Calls Try.prog 79 #[.slice A0 l0.length c0] w fun e w' => ∃ v0_ : Value, e = .returned (v0_) ∧ Kd.R k38 38 w' w.heap.size (fun _ => True) v0_ r ∧ Below w.heap.size w w' := by
 have hu38 := Try.underlying38
 have HR0 := aA.mk hr0
 have HC0 := aA.mk hc0
 clear hr0 hc0
 have HB := aA.mk (Below.refl w.heap.size w)
 have H : (impl_Drop.l0 k (([] : List (S38))) l0 (l0.length : Int) 0) = some r := h
 clear h
 obtain ⟨y347, hy347⟩ : ∃ y_ : List (S38), y_ = (([] : List (S38))) := ⟨_, rfl⟩
 replace H : (impl_Drop.l0 k y347 l0 (l0.length : Int) 0) = some r := by first | (rw [hy347]; with_reducible exact H) | (have H2_ := (Option.bind_some _ _).symm.trans H; rw [hy347]; with_reducible exact H2_) | (have H2_ := (Option.bind_some _ _).symm.trans H; with_reducible exact H2_) | with_reducible exact H | (rw [hy347]; exact H) | exact H
 have Ny347 := aA.mk hy347
 clear hy347
 have H' := aA.mk H
 clear H
 go_enter Try.func79, Try.ntmps79
 go_wp2_with (first | ((with_reducible refine aW (N := 6) rfl ?_); refine Kd.R_lit k38 _ 38 ?hg (N := 6) ?hd (xs := ([] : List (S38))) (inner := []) (ok := fun _ => True) (okp := fun _ => True) ?hr ?hp (fun _ hk => hk) trivial (Below.refl _ _) (Nat.le_refl _) (by simp) ?_; (case hd => rfl); (case hg => rfl); (case hr => first | (go_simp; done) | (go_simp; rfl)); (case hp => exact (Reps.none _ _)); intro v348 w2 ho3 hb hg_ hnew_; clear hg_ hnew_; (first | rw [← Ny347.out] at ho3 | (simp only [Int.reduceToNat] at ho3; rw [← Ny347.out] at ho3)); have n0_ := aA.mk (Kd.R_lower ho3 (aT (by repeat (first | (with_reducible first | exact HB.out | apply aH | apply aC | apply aG) | exact HB.out)))); have n1_ := aA.mk (aU (by repeat (first | (with_reducible first | exact HB.out | apply aH | apply aC | apply aG) | exact HB.out)) hb); clear HB; have HO349 := n0_; have HB := n1_; clear n0_ n1_; clear hb ho3))
 go_loopg [3, 9] k (fun kq v3 v9 w' => ∃ (x3_1 : List (S38)) (x9_1 : Int), v9 = .int .i64 x9_1 ∧ aA (impl_Drop.l0 kq x3_1 l0 (l0.length : Int) x9_1 = some r) ∧ aA (kq ≤ k) ∧ aA (Kd.R k38 38 w' w.heap.size (fun _ => True) v3 x3_1) ∧ aA (Below w.heap.size w w'))
 case atStart => exact ⟨(y347), (0), (by first | rfl | (simp; done) | (simp [*]; done)), H', ⟨Nat.le_refl _⟩, ⟨by (with_reducible repeat (first | apply Kd.aY | apply Kd.aZ | apply Kd.bA)); exact HO349.out⟩, ⟨by repeat (first | (with_reducible first | exact HB.out | apply aH | apply aC | apply aG) | exact HB.out)⟩⟩
 case round =>
  clear H'
  try clear p2
  obtain ⟨x3_1, x9_1, rfl, HA, HK1, HO_3, HB⟩ := hrel
  cases gk with
  | zero => exact absurd HA.out (by simp [impl_Drop.l0])
  | succ k1 =>
   have H := HA.out
   clear HA
   simp only [impl_Drop.l0] at H
   by_cases c4 : x9_1 < (l0.length : Int)
   ·rw [if_pos c4] at H
    have c4b0 : decide (x9_1 < (l0.length : Int)) = true := decide_eq_true c4
    clear c4
    by_cases c5 : 0 ≤ x9_1
    ·rw [if_pos c5] at H
     have c5b0 : decide (0 ≤ x9_1) = true := decide_eq_true c5
     clear c5
     by_cases c6 : x9_1 < (l0.length : Int)
     ·rw [if_pos c6] at H
      have c6b0 : decide (x9_1 < (l0.length : Int)) = true := decide_eq_true c6
      clear c6
      by_cases c7 : ((rd_T38 l0 x9_1).f2) = 0
      ·rw [if_pos c7] at H
       have c7b0 : (((rd_T38 l0 x9_1).f2) == 0) = true := beq_iff_eq.mpr c7
       have c7b1 : (((rd_T38 l0 x9_1).f2) != 0) = false := bne_eq_false_iff_eq.mpr c7
       clear c7
       have H' := aA.mk H
       clear H
       have p350 : 0 ≤ (x9_1 : Int) := lE (by first | (with_reducible assumption) | assumption)
       have q350 : x9_1 < (l0.length : Int) := lE (by first | (with_reducible assumption) | assumption)
       obtain ⟨ad350, e350, hx350_0, hx350_1, hx350_2, hx350_3, hx350_4⟩ := at_T38 HR0.out x9_1 p350 q350
       cases e350
       replace hx350_0 := (HB.out.cell (lD w _ hx350_0)).trans hx350_0
       replace hx350_1 := (HB.out.cell (lD w _ hx350_1)).trans hx350_1
       replace hx350_2 := (HB.out.cell (lD w _ hx350_2)).trans hx350_2
       replace hx350_3 := (HB.out.cell (lD w _ hx350_3)).trans hx350_3
       replace hx350_4 := (HB.out.cell (lD w _ hx350_4)).trans hx350_4
       replace p350 := eq_true p350
       replace q350 := eq_true q350
       go_wp2_with (first | ((with_reducible refine aW (N := 5) rfl ?_); refine aX ?hg (N := 5) ?hd (cs := #[.int .i64 0, .int .i64 0, .int .i64 0, .int .i64 0, .int .i64 0]) (t := 38) ?hr ?_; (case hd => rfl); (case hg => rfl); (case hr => first | (go_simp; done) | (go_simp; rfl)); intro gb351 hg w8 hbox hb; have n0_ := aA.mk (Kd.bU (Kd.R_elderB (by (with_reducible repeat (first | apply Kd.aY | apply Kd.aZ | apply Kd.bA)); exact HO_3.out) gb351 (Nat.le_of_eq hg.symm)) hb); have n1_ := aA.mk (aU (by repeat (first | (with_reducible first | exact HB.out | apply aH | apply aC | apply aG) | exact HB.out)) hb); have n2_ := aA.mk (hbox); have n3_ := aA.mk ((by rw [hg]; exact (aT (by repeat (first | (with_reducible first | exact HB.out | apply aH | apply aC | apply aG) | exact HB.out))) : w.heap.size ≤ gb351)); have n4_ := aA.mk ((by rw [hg]; exact (aT (by repeat (first | (with_reducible first | exact HB.out | apply aH | apply aC | apply aG) | exact HB.out))) : w.heap.size ≤ gb351)); clear HO_3; clear HB; have HO_3 := n0_; have HB := n1_; have BK351 := n2_; have GW351 := n3_; have GE351 := n4_; clear n0_ n1_ n2_ n3_ n4_; clear hb hbox hg; have hcz9_0 : w8.cell? ⟨gb351, 0, none⟩ = some (.int .i64 0) := (aE BK351.out 0).trans rfl; have hcz9_1 : w8.cell? ⟨gb351, 1, none⟩ = some (.int .i64 0) := (aE BK351.out 1).trans rfl; have hcz9_2 : w8.cell? ⟨gb351, 2, none⟩ = some (.int .i64 0) := (aE BK351.out 2).trans rfl; have hcz9_3 : w8.cell? ⟨gb351, 3, none⟩ = some (.int .i64 0) := (aE BK351.out 3).trans rfl; have hcz9_4 : w8.cell? ⟨gb351, 4, none⟩ = some (.int .i64 0) := (aE BK351.out 4).trans rfl; have hfz9_0 := aD BK351.out 0; have hfz9_1 := aD BK351.out 1; have hfz9_2 := aD BK351.out 2; have hfz9_3 := aD BK351.out 3; have hfz9_4 := aD BK351.out 4))
       go_roundg k1
       case measure => have := HK1.out; omega
       case rel => exact ⟨(x3_1), (wrap64 (x9_1 + 1)), (by first | rfl | (simp; done) | (simp [*]; done)), H', ⟨by have := HK1.out; omega⟩, ⟨by (with_reducible repeat (first | apply Kd.aY | apply Kd.aZ | apply Kd.bA)); exact Kd.bK (Kd.R_far (p := ⟨gb351, 4, none⟩) (Kd.R_far (p := ⟨gb351, 3, none⟩) (Kd.R_far (p := ⟨gb351, 2, none⟩) (Kd.R_far (p := ⟨gb351, 1, none⟩) (Kd.R_far (p := ⟨gb351, 0, none⟩) (Kd.bK HO_3.out (fun k_ hk => (⟨hk, hk.2⟩ : _ ∧ k_ ≠ gb351))) (fun _ hk => hk.2) (.int .i64 ((rd_T38 l0 x9_1).f0))) (fun _ hk => hk.2) (.int .i64 ((rd_T38 l0 x9_1).f1))) (fun _ hk => hk.2) (.int .i64 ((rd_T38 l0 x9_1).f2))) (fun _ hk => hk.2) (.int .i64 ((rd_T38 l0 x9_1).f3))) (fun _ hk => hk.2) (.int .i64 ((rd_T38 l0 x9_1).f4))) (fun _ hk => trivial)⟩, ⟨by repeat (first | (with_reducible first | exact HB.out | apply aH | apply aC | apply aG | refine aJ ?_ GE351.out) | exact HB.out)⟩⟩
      ·rw [if_neg c7] at H
       have c7b0 : (((rd_T38 l0 x9_1).f2) == 0) = false := beq_eq_false_iff_ne.mpr c7
       have c7b1 : (((rd_T38 l0 x9_1).f2) != 0) = true := bne_iff_ne.mpr c7
       by_cases c10 : x3_1.length < 3518437208883
       ·rw [if_pos c10] at H
        have LMc10 := aA.mk c10
        clear c10
        obtain ⟨y352, hy352⟩ : ∃ y_ : List (S38), y_ = (x3_1 ++ [(⟨(rd_T38 l0 x9_1).f0, (rd_T38 l0 x9_1).f1, (rd_T38 l0 x9_1).f2, (rd_T38 l0 x9_1).f3, (rd_T38 l0 x9_1).f4⟩ : S38)]) := ⟨_, rfl⟩
        replace H : (impl_Drop.l0 k1 y352 l0 (l0.length : Int) (wrap64 (x9_1 + 1))) = some r := by first | (rw [hy352]; with_reducible exact H) | (have H2_ := (Option.bind_some _ _).symm.trans H; rw [hy352]; with_reducible exact H2_) | (have H2_ := (Option.bind_some _ _).symm.trans H; with_reducible exact H2_) | with_reducible exact H | (rw [hy352]; exact H) | exact H
        have Ny352 := aA.mk hy352
        clear hy352
        have H' := aA.mk H
        clear H
        have p350 : 0 ≤ (x9_1 : Int) := lE (by first | (with_reducible assumption) | assumption)
        have q350 : x9_1 < (l0.length : Int) := lE (by first | (with_reducible assumption) | assumption)
        obtain ⟨ad350, e350, hx350_0, hx350_1, hx350_2, hx350_3, hx350_4⟩ := at_T38 HR0.out x9_1 p350 q350
        cases e350
        replace hx350_0 := (HB.out.cell (lD w _ hx350_0)).trans hx350_0
        replace hx350_1 := (HB.out.cell (lD w _ hx350_1)).trans hx350_1
        replace hx350_2 := (HB.out.cell (lD w _ hx350_2)).trans hx350_2
        replace hx350_3 := (HB.out.cell (lD w _ hx350_3)).trans hx350_3
        replace hx350_4 := (HB.out.cell (lD w _ hx350_4)).trans hx350_4
        replace p350 := eq_true p350
        replace q350 := eq_true q350
        go_wp2_with (first | ((with_reducible refine aW (N := 5) rfl ?_); refine aX ?hg (N := 5) ?hd (cs := #[.int .i64 0, .int .i64 0, .int .i64 0, .int .i64 0, .int .i64 0]) (t := 38) ?hr ?_; (case hd => rfl); (case hg => rfl); (case hr => first | (go_simp; done) | (go_simp; rfl)); intro gb351 hg w11 hbox hb; have n0_ := aA.mk (Kd.bU (Kd.R_elderB (by (with_reducible repeat (first | apply Kd.aY | apply Kd.aZ | apply Kd.bA)); exact HO_3.out) gb351 (Nat.le_of_eq hg.symm)) hb); have n1_ := aA.mk (aU (by repeat (first | (with_reducible first | exact HB.out | apply aH | apply aC | apply aG) | exact HB.out)) hb); have n2_ := aA.mk (hbox); have n3_ := aA.mk ((by rw [hg]; exact (aT (by repeat (first | (with_reducible first | exact HB.out | apply aH | apply aC | apply aG) | exact HB.out))) : w.heap.size ≤ gb351)); have n4_ := aA.mk ((by rw [hg]; exact (aT (by repeat (first | (with_reducible first | exact HB.out | apply aH | apply aC | apply aG) | exact HB.out))) : w.heap.size ≤ gb351)); clear HO_3; clear HB; have HO_3 := n0_; have HB := n1_; have BK351 := n2_; have GW351 := n3_; have GE351 := n4_; clear n0_ n1_ n2_ n3_ n4_; clear hb hbox hg; have hcz12_0 : w11.cell? ⟨gb351, 0, none⟩ = some (.int .i64 0) := (aE BK351.out 0).trans rfl; have hcz12_1 : w11.cell? ⟨gb351, 1, none⟩ = some (.int .i64 0) := (aE BK351.out 1).trans rfl; have hcz12_2 : w11.cell? ⟨gb351, 2, none⟩ = some (.int .i64 0) := (aE BK351.out 2).trans rfl; have hcz12_3 : w11.cell? ⟨gb351, 3, none⟩ = some (.int .i64 0) := (aE BK351.out 3).trans rfl; have hcz12_4 : w11.cell? ⟨gb351, 4, none⟩ = some (.int .i64 0) := (aE BK351.out 4).trans rfl; have hfz12_0 := aD BK351.out 0; have hfz12_1 := aD BK351.out 1; have hfz12_2 := aD BK351.out 2; have hfz12_3 := aD BK351.out 3; have hfz12_4 := aD BK351.out 4) | ((with_reducible refine gate_builtin (b := .append) (xs := #[.tmp 16, .tmp 18]) rfl ?_); at_builtin; refine Kd.R_append k38 (w0 := w) w.heap.size rfl (.tmp 16) (.tmp 18) 45 38 (.agg #[(.int .i64 0), (.int .i64 0), (.int .i64 0), (.int .i64 0), (.int .i64 0)]) 40 rfl Try.underlying45 info38 rfl (by decide) (by omega) u3 x3_1 (⟨(rd_T38 l0 x9_1).f0, (rd_T38 l0 x9_1).f1, (rd_T38 l0 x9_1).f2, (rd_T38 l0 x9_1).f3, (rd_T38 l0 x9_1).f4⟩ : S38) [.int .i64 ((rd_T38 l0 x9_1).f0), .int .i64 ((rd_T38 l0 x9_1).f1), .int .i64 ((rd_T38 l0 x9_1).f2), .int .i64 ((rd_T38 l0 x9_1).f3), .int .i64 ((rd_T38 l0 x9_1).f4)] (fun k_ => k_ ≠ gb351) (fun _ => False) rfl (by first | (go_simp; done) | (go_simp; rfl)) ?aP (fun _ hk => hk.elim) ?aF ?aO ?aB ?aS ?aL ?_; (case aP => exact k38_mkM _ _ _ (⟨(rd_T38 l0 x9_1).f0, (rd_T38 l0 x9_1).f1, (rd_T38 l0 x9_1).f2, (rd_T38 l0 x9_1).f3, (rd_T38 l0 x9_1).f4⟩ : S38)); (case aB => exact (by repeat (first | (with_reducible first | exact HB.out | apply aH | apply aC | apply aG | refine aJ ?_ GE351.out) | exact HB.out))); (case aF => exact (fun k_ hk => Kd.freshB (g := gb351) (o := .cells #[.int .i64 ((rd_T38 l0 x9_1).f0), .int .i64 ((rd_T38 l0 x9_1).f1), .int .i64 ((rd_T38 l0 x9_1).f2), .int .i64 ((rd_T38 l0 x9_1).f3), .int .i64 ((rd_T38 l0 x9_1).f4)] 38 (0, 0)) (by (with_reducible repeat (first | refine aN ?_ _ | refine aQ ?_ | refine aM ?_ _)); refine bG (cs := #[.int .i64 ((rd_T38 l0 x9_1).f0), .int .i64 ((rd_T38 l0 x9_1).f1), .int .i64 ((rd_T38 l0 x9_1).f2), .int .i64 ((rd_T38 l0 x9_1).f3), .int .i64 0]) ?_ 4 _ rfl; (with_reducible repeat (first | refine aN ?_ _ | refine aQ ?_ | refine aM ?_ _)); refine bG (cs := #[.int .i64 ((rd_T38 l0 x9_1).f0), .int .i64 ((rd_T38 l0 x9_1).f1), .int .i64 ((rd_T38 l0 x9_1).f2), .int .i64 0, .int .i64 0]) ?_ 3 _ rfl; (with_reducible repeat (first | refine aN ?_ _ | refine aQ ?_ | refine aM ?_ _)); refine bG (cs := #[.int .i64 ((rd_T38 l0 x9_1).f0), .int .i64 ((rd_T38 l0 x9_1).f1), .int .i64 0, .int .i64 0, .int .i64 0]) ?_ 2 _ rfl; (with_reducible repeat (first | refine aN ?_ _ | refine aQ ?_ | refine aM ?_ _)); refine bG (cs := #[.int .i64 ((rd_T38 l0 x9_1).f0), .int .i64 0, .int .i64 0, .int .i64 0, .int .i64 0]) ?_ 1 _ rfl; (with_reducible repeat (first | refine aN ?_ _ | refine aQ ?_ | refine aM ?_ _)); refine bG (cs := #[.int .i64 0, .int .i64 0, .int .i64 0, .int .i64 0, .int .i64 0]) ?_ 0 _ rfl; (with_reducible repeat (first | refine aN ?_ _ | refine aQ ?_ | refine aM ?_ _)); exact BK351.out) k_ hk)); (case aO => exact (by (with_reducible repeat (first | apply Kd.aY | apply Kd.aZ | apply Kd.bA)); exact Kd.bK (Kd.R_far (p := ⟨gb351, 4, none⟩) (Kd.R_far (p := ⟨gb351, 3, none⟩) (Kd.R_far (p := ⟨gb351, 2, none⟩) (Kd.R_far (p := ⟨gb351, 1, none⟩) (Kd.R_far (p := ⟨gb351, 0, none⟩) (Kd.bK HO_3.out (fun k_ hk => (⟨hk, hk.2⟩ : _ ∧ k_ ≠ gb351))) (fun _ hk => hk.2) (.int .i64 ((rd_T38 l0 x9_1).f0))) (fun _ hk => hk.2) (.int .i64 ((rd_T38 l0 x9_1).f1))) (fun _ hk => hk.2) (.int .i64 ((rd_T38 l0 x9_1).f2))) (fun _ hk => hk.2) (.int .i64 ((rd_T38 l0 x9_1).f3))) (fun _ hk => hk.2) (.int .i64 ((rd_T38 l0 x9_1).f4))) (fun _ hk => hk.1.2))); (case aS => exact (aT (by repeat (first | (with_reducible first | exact HB.out | apply aH | apply aC | apply aG | refine aJ ?_ GE351.out) | exact HB.out)))); (case aL => have := LMc10.out; omega); intro v353 w13 ho hb hg hat; rw [← Ny352.out] at ho; have n0_ := aA.mk (blk_grown (g := gb351) (o := .cells #[.int .i64 ((rd_T38 l0 x9_1).f0), .int .i64 ((rd_T38 l0 x9_1).f1), .int .i64 ((rd_T38 l0 x9_1).f2), .int .i64 ((rd_T38 l0 x9_1).f3), .int .i64 ((rd_T38 l0 x9_1).f4)] 38 (0, 0)) (by (with_reducible repeat (first | refine aN ?_ _ | refine aQ ?_ | refine aM ?_ _)); refine bG (cs := #[.int .i64 ((rd_T38 l0 x9_1).f0), .int .i64 ((rd_T38 l0 x9_1).f1), .int .i64 ((rd_T38 l0 x9_1).f2), .int .i64 ((rd_T38 l0 x9_1).f3), .int .i64 0]) ?_ 4 _ rfl; (with_reducible repeat (first | refine aN ?_ _ | refine aQ ?_ | refine aM ?_ _)); refine bG (cs := #[.int .i64 ((rd_T38 l0 x9_1).f0), .int .i64 ((rd_T38 l0 x9_1).f1), .int .i64 ((rd_T38 l0 x9_1).f2), .int .i64 0, .int .i64 0]) ?_ 3 _ rfl; (with_reducible repeat (first | refine aN ?_ _ | refine aQ ?_ | refine aM ?_ _)); refine bG (cs := #[.int .i64 ((rd_T38 l0 x9_1).f0), .int .i64 ((rd_T38 l0 x9_1).f1), .int .i64 0, .int .i64 0, .int .i64 0]) ?_ 2 _ rfl; (with_reducible repeat (first | refine aN ?_ _ | refine aQ ?_ | refine aM ?_ _)); refine bG (cs := #[.int .i64 ((rd_T38 l0 x9_1).f0), .int .i64 0, .int .i64 0, .int .i64 0, .int .i64 0]) ?_ 1 _ rfl; (with_reducible repeat (first | refine aN ?_ _ | refine aQ ?_ | refine aM ?_ _)); refine bG (cs := #[.int .i64 0, .int .i64 0, .int .i64 0, .int .i64 0, .int .i64 0]) ?_ 0 _ rfl; (with_reducible repeat (first | refine aN ?_ _ | refine aQ ?_ | refine aM ?_ _)); exact BK351.out) hg (Kd.R_away HO_3.out (fun _ hk => hk.2))); have n1_ := aA.mk (hb); have n2_ := aA.mk (ho); clear BK351; clear HB; clear HO_3; have BK351 := n0_; have HB := n1_; have HO354 := n2_; clear n0_ n1_ n2_; clear ho hb hg hat))
        go_roundg k1
        case measure => have := HK1.out; omega
        case rel => exact ⟨(y352), (wrap64 (x9_1 + 1)), (by first | rfl | (simp; done) | (simp [*]; done)), H', ⟨by have := HK1.out; omega⟩, ⟨by (with_reducible repeat (first | apply Kd.aY | apply Kd.aZ | apply Kd.bA)); exact Kd.bK HO354.out (fun _ hk => trivial)⟩, ⟨by repeat (first | (with_reducible first | exact HB.out | apply aH | apply aC | apply aG | refine aJ ?_ GE351.out) | exact HB.out)⟩⟩
       ·rw [if_neg c10] at H
        exact absurd H (by simp)
     ·rw [if_neg c6] at H
      exact absurd H (by simp)
    ·rw [if_neg c5] at H
     exact absurd H (by simp)
   ·rw [if_neg c4] at H
    have c4b0 : decide (x9_1 < (l0.length : Int)) = false := decide_eq_false c4
    clear c4
    obtain rfl := Option.some.inj H
    go_wp2
    go_ret
    exact ⟨_, by first | rfl | (simp [errW_none, errW_some] <;> rfl) | (simp [*, errW_none, errW_some] <;> rfl), by (with_reducible repeat (first | apply Kd.aY | apply Kd.aZ | apply Kd.bA)); exact HO_3.out, by repeat (first | (with_reducible first | exact HB.out | apply aH | apply aC | apply aG) | exact HB.out)⟩
def impl_NodeKeys.l0 : Nat → List (S38) → List (List (S38)) → Int → Int → Option ((List (S38)))
 | 0, _, _, _, _ => none
 | k + 1, x3, x8, x9, x10 => if x10 < x9 then (if 0 ≤ x10 then (if x10 < (x8.length : Int) then ((impl_MergeSets.f k x3 (rd_L6 x8 x10)).bind fun t360 => (impl_NodeKeys.l0 k t360 x8 x9 (wrap64 (x10 + 1)))) else (none)) else (none)) else ((impl_Drop.f k x3).bind fun t363 => (some t363))
def impl_NodeKeys.f (k : Nat) (l0_0 : List (List (S38))) : Option ((List (S38))) := impl_NodeKeys.l0 k (([] : List (S38))) l0_0 (l0_0.length : Int) 0
set_option maxHeartbeats 8000000 in
set_option maxRecDepth 100000 in
theorem impl_NodeKeys.calls (k : Nat) (A0_0 : Option Addr) (c0_0 : Nat) (l0_0 : List (List (S38))) (r : List (S38)) (w : World) (hr0_0 : Kd.C (Kd.slice 38 k38) w A0_0 l0_0.length l0_0) (hc0_0 : l0_0.length ≤ c0_0) (h : impl_NodeKeys.f k l0_0 = some r) :
  Calls Try.prog 46 #[.agg #[.slice A0_0 l0_0.length c0_0]] w fun e w' => ∃ v0_ : Value, e = .returned (v0_) ∧ Kd.R k38 38 w' w.heap.size (fun _ => True) v0_ r ∧ Below w.heap.size w w' := by
 have hu59 := Try.underlying59
 have HR0_0 := aA.mk hr0_0
 have HC0_0 := aA.mk hc0_0
 clear hr0_0 hc0_0
 have HB := aA.mk (Below.refl w.heap.size w)
 have H : (impl_NodeKeys.l0 k (([] : List (S38))) l0_0 (l0_0.length : Int) 0) = some r := h
 clear h
 obtain ⟨y356, hy356⟩ : ∃ y_ : List (S38), y_ = (([] : List (S38))) := ⟨_, rfl⟩
 replace H : (impl_NodeKeys.l0 k y356 l0_0 (l0_0.length : Int) 0) = some r := by first | (rw [hy356]; with_reducible exact H) | (have H2_ := (Option.bind_some _ _).symm.trans H; rw [hy356]; with_reducible exact H2_) | (have H2_ := (Option.bind_some _ _).symm.trans H; with_reducible exact H2_) | with_reducible exact H | (rw [hy356]; exact H) | exact H
 have Ny356 := aA.mk hy356
 clear hy356
 have H' := aA.mk H
 clear H
 go_enter Try.func46, Try.ntmps46
 go_wp2_with (first | ((with_reducible refine aW (N := 1) rfl ?_); refine aX ?hg (N := 1) ?hd (cs := #[.slice A0_0 l0_0.length c0_0]) (t := 59) ?hr ?_; (case hd => rfl); (case hg => rfl); (case hr => first | (go_simp; done) | (go_simp; rfl)); intro gb355 hg w2 hbox hb; have n0_ := aA.mk (aU (by repeat (first | (with_reducible first | exact HB.out | apply aH | apply aC | apply aG) | exact HB.out)) hb); have n1_ := aA.mk (hbox); have n2_ := aA.mk ((by rw [hg]; exact (aT (by repeat (first | (with_reducible first | exact HB.out | apply aH | apply aC | apply aG) | exact HB.out))) : w.heap.size ≤ gb355)); have n3_ := aA.mk ((by rw [hg]; exact (aT (by repeat (first | (with_reducible first | exact HB.out | apply aH | apply aC | apply aG) | exact HB.out))) : w.heap.size ≤ gb355)); clear HB; have HB := n0_; have BK355 := n1_; have GW355 := n2_; have GE355 := n3_; clear n0_ n1_ n2_ n3_; clear hb hbox hg) | ((with_reducible refine aW (N := 6) rfl ?_); refine Kd.R_lit k38 _ 38 ?hg (N := 6) ?hd (xs := ([] : List (S38))) (inner := []) (ok := fun _ => True) (okp := fun _ => True) ?hr ?hp (fun _ hk => hk) trivial (Below.refl _ _) (Nat.le_refl _) (by simp) ?_; (case hd => rfl); (case hg => rfl); (case hr => first | (go_simp; done) | (go_simp; rfl)); (case hp => exact (Reps.none _ _)); intro v357 w3 ho4 hb hg_ hnew_; clear hg_ hnew_; (first | rw [← Ny356.out] at ho4 | (simp only [Int.reduceToNat] at ho4; rw [← Ny356.out] at ho4)); have n0_ := aA.mk (Kd.R_lower ho4 (aT (by repeat (first | (with_reducible first | exact HB.out | apply aH | apply aC | apply aG | refine aJ ?_ GE355.out) | exact HB.out)))); have n1_ := aA.mk (aV (g := gb355) (o := .cells #[.slice A0_0 l0_0.length c0_0] 59 (0, 0)) (by (with_reducible repeat (first | refine aN ?_ _ | refine aQ ?_ | refine aM ?_ _)); exact BK355.out) hb); have n2_ := aA.mk (aU (by repeat (first | (with_reducible first | exact HB.out | apply aH | apply aC | apply aG | refine aJ ?_ GE355.out) | exact HB.out)) hb); clear BK355; clear HB; have HO358 := n0_; have BK355 := n1_; have HB := n2_; clear n0_ n1_ n2_; clear hb ho4; have hcz5_0 : w3.cell? ⟨gb355, 0, none⟩ = some (.slice A0_0 l0_0.length c0_0) := (aE BK355.out 0).trans rfl; have hfz5_0 := aD BK355.out 0))
 go_loopg [3, 10] k (fun kq v3 v10 w' => ∃ (x3_1 : List (S38)) (x10_1 : Int), v10 = .int .i64 x10_1 ∧ aA (impl_NodeKeys.l0 kq x3_1 l0_0 (l0_0.length : Int) x10_1 = some r) ∧ aA (kq ≤ k) ∧ aA (Kd.R k38 38 w' w.heap.size (fun _ => True) v3 x3_1) ∧ aA (w'.heap[gb355]? = some (.cells #[(.slice A0_0 l0_0.length c0_0)] 59 (0, 0))) ∧ aA (Below w.heap.size w w'))
 case atStart => exact ⟨(y356), (0), (by first | rfl | (simp; done) | (simp [*]; done)), H', ⟨Nat.le_refl _⟩, ⟨by (with_reducible repeat (first | apply Kd.aY | apply Kd.aZ | apply Kd.bA)); exact HO358.out⟩, ⟨by (with_reducible repeat (first | refine aN ?_ _ | refine aQ ?_ | refine aM ?_ _)); exact BK355.out⟩, ⟨by repeat (first | (with_reducible first | exact HB.out | apply aH | apply aC | apply aG | refine aJ ?_ GE355.out) | exact HB.out)⟩⟩
 case round =>
  clear H'
  try clear p2
  try clear c4
  try clear hcz5_0
  try clear hfz5_0
  obtain ⟨x3_1, x10_1, rfl, HA, HK1, HO_3, BK355, HB⟩ := hrel
  cases gk with
  | zero => exact absurd HA.out (by simp [impl_NodeKeys.l0])
  | succ k1 =>
   have H := HA.out
   clear HA
   simp only [impl_NodeKeys.l0] at H
   by_cases c6 : x10_1 < (l0_0.length : Int)
   ·rw [if_pos c6] at H
    have c6b0 : decide (x10_1 < (l0_0.length : Int)) = true := decide_eq_true c6
    clear c6
    by_cases c7 : 0 ≤ x10_1
    ·rw [if_pos c7] at H
     have c7b0 : decide (0 ≤ x10_1) = true := decide_eq_true c7
     clear c7
     by_cases c8 : x10_1 < (l0_0.length : Int)
     ·rw [if_pos c8] at H
      have c8b0 : decide (x10_1 < (l0_0.length : Int)) = true := decide_eq_true c8
      clear c8
      replace H := lF H
      obtain ⟨t360, A90, H⟩ := H
      replace H : (impl_NodeKeys.l0 k1 t360 l0_0 (l0_0.length : Int) (wrap64 (x10_1 + 1))) = some r := H
      have A9 := aA.mk A90
      clear A90
      have H' := aA.mk H
      clear H
      have p359 : 0 ≤ (x10_1 : Int) := lE (by first | (with_reducible assumption) | assumption)
      have q359 : x10_1 < (l0_0.length : Int) := lE (by first | (with_reducible assumption) | assumption)
      obtain ⟨ad359, A359_0, c359_0, e359, hx359_0, hl359_0, hi359_0⟩ := at_L6 HR0_0.out x10_1 p359 q359
      cases e359
      replace hx359_0 := (HB.out.cell (lD w _ hx359_0)).trans hx359_0
      have HR359_0 := aA.mk hi359_0
      have HC359_0 := aA.mk hl359_0
      clear hi359_0 hl359_0
      replace p359 := eq_true p359
      replace q359 := eq_true q359
      obtain ⟨Ao10, co10, eo10⟩ := Kd.R_slice HO_3.out
      subst eo10
      go_wp2_with (first | ((with_reducible refine bB (f := 78) rfl ?_); refine bP (some 16) rfl rfl Try.func78 (by kernel_rfl) rfl #[.slice Ao10 x3_1.length co10, .slice A359_0 (rd_L6 l0_0 x10_1).length c359_0] rfl (by (try simp only [List.map_toArray, List.map_cons, List.map_nil]); first | done | rfl | (simp only [List.length_drop, List.length_take]; rfl)) ?_; (with_reducible refine (impl_MergeSets.calls k1 _ _ x3_1 _ _ (rd_L6 l0_0 x10_1) t360 _ ?side1 ?side2 ?side3 ?side4 A9.out).mono ?_); (case side1 => repeat (first | exact (Kd.R_reads' HO_3.out).2.2 | (with_reducible refine Kd.bM ?_ _) | (with_reducible refine Kd.bN ?_ _) | (with_reducible refine Kd.bR ?_))); (case side2 => exact (Kd.R_reads' HO_3.out).2.1); (case side3 => repeat (first | exact (Kd.bJ HR359_0.out HB.out) | (with_reducible refine Kd.bM ?_ _) | (with_reducible refine Kd.bN ?_ _) | (with_reducible refine Kd.bR ?_))); (case side4 => exact HC359_0.out); rintro e w11 ⟨v361, rfl, ho0, hb⟩; refine ⟨_, rfl, ?_⟩; have n0_ := aA.mk (Kd.R_elder' (by (with_reducible repeat (first | apply Kd.aY | apply Kd.aZ | apply Kd.bA)); exact HO_3.out) (Kd.R_base ho0) hb); have n1_ := aA.mk (Kd.R_lower (Kd.R_new' ho0 (Kd.R_lt (by (with_reducible repeat (first | apply Kd.aY | apply Kd.aZ | apply Kd.bA)); exact HO_3.out))) (aT (by repeat (first | (with_reducible first | exact HB.out | apply aH | apply aC | apply aG | refine aJ ?_ GE355.out) | exact HB.out)))); have n2_ := aA.mk (aV (g := gb355) (o := .cells #[.slice (some ad359) l0_0.length c0_0] 59 (0, 0)) (by (with_reducible repeat (first | refine aN ?_ _ | refine aQ ?_ | refine aM ?_ _)); exact BK355.out) hb); have n3_ := aA.mk (aU (by repeat (first | (with_reducible first | exact HB.out | apply aH | apply aC | apply aG | refine aJ ?_ GE355.out) | exact HB.out)) hb); clear HO_3; clear BK355; clear HB; have HO_3 := n0_; have HO362 := n1_; have BK355 := n2_; have HB := n3_; clear n0_ n1_ n2_ n3_; (try clear hb); (try clear ho0)))
      go_roundg k1
      case measure => have := HK1.out; omega
      case rel => exact ⟨(t360), (wrap64 (x10_1 + 1)), (by first | rfl | (simp; done) | (simp [*]; done)), H', ⟨by have := HK1.out; omega⟩, ⟨by (with_reducible repeat (first | apply Kd.aY | apply Kd.aZ | apply Kd.bA)); exact Kd.bK HO362.out (fun _ hk => trivial)⟩, ⟨by (with_reducible repeat (first | refine aN ?_ _ | refine aQ ?_ | refine aM ?_ _)); exact BK355.out⟩, ⟨by repeat (first | (with_reducible first | exact HB.out | apply aH | apply aC | apply aG | refine aJ ?_ GE355.out) | exact HB.out)⟩⟩
     ·rw [if_neg c8] at H
      exact absurd H (by simp)
    ·rw [if_neg c7] at H
     exact absurd H (by simp)
   ·rw [if_neg c6] at H
    have c6b0 : decide (x10_1 < (l0_0.length : Int)) = false := decide_eq_false c6
    clear c6
    replace H := lF H
    obtain ⟨t363, A120, H⟩ := H
    replace H : (some t363) = some r := H
    have A12 := aA.mk A120
    clear A120
    obtain rfl := Option.some.inj H
    obtain ⟨Ao13, co13, eo13⟩ := Kd.R_slice HO_3.out
    subst eo13
    go_wp2_with (first | ((with_reducible refine bB (f := 79) rfl ?_); refine bP (some 19) rfl rfl Try.func79 (by kernel_rfl) rfl #[.slice Ao13 x3_1.length co13] rfl (by (try simp only [List.map_toArray, List.map_cons, List.map_nil]); first | done | rfl | (simp only [List.length_drop, List.length_take]; rfl)) ?_; (with_reducible refine (impl_Drop.calls k1 _ _ x3_1 t363 _ ?side1 ?side2 A12.out).mono ?_); (case side1 => repeat (first | exact (Kd.R_reads' HO_3.out).2.2 | (with_reducible refine Kd.bM ?_ _) | (with_reducible refine Kd.bN ?_ _) | (with_reducible refine Kd.bR ?_))); (case side2 => exact (Kd.R_reads' HO_3.out).2.1); rintro e w14 ⟨v364, rfl, ho0, hb⟩; refine ⟨_, rfl, ?_⟩; have n0_ := aA.mk (Kd.R_elder' (by (with_reducible repeat (first | apply Kd.aY | apply Kd.aZ | apply Kd.bA)); exact HO_3.out) (Kd.R_base ho0) hb); have n1_ := aA.mk (Kd.R_lower (Kd.R_new' ho0 (Kd.R_lt (by (with_reducible repeat (first | apply Kd.aY | apply Kd.aZ | apply Kd.bA)); exact HO_3.out))) (aT (by repeat (first | (with_reducible first | exact HB.out | apply aH | apply aC | apply aG | refine aJ ?_ GE355.out) | exact HB.out)))); have n2_ := aA.mk (aV (g := gb355) (o := .cells #[.slice A0_0 l0_0.length c0_0] 59 (0, 0)) (by (with_reducible repeat (first | refine aN ?_ _ | refine aQ ?_ | refine aM ?_ _)); exact BK355.out) hb); have n3_ := aA.mk (aU (by repeat (first | (with_reducible first | exact HB.out | apply aH | apply aC | apply aG | refine aJ ?_ GE355.out) | exact HB.out)) hb); clear HO_3; clear BK355; clear HB; have HO_3 := n0_; have HO365 := n1_; have BK355 := n2_; have HB := n3_; clear n0_ n1_ n2_ n3_; (try clear hb); (try clear ho0)))
    go_ret
    exact ⟨_, by first | rfl | (simp [errW_none, errW_some] <;> rfl) | (simp [*, errW_none, errW_some] <;> rfl), by (with_reducible repeat (first | apply Kd.aY | apply Kd.aZ | apply Kd.bA)); exact Kd.bK HO365.out (fun _ hk => trivial), by repeat (first | (with_reducible first | exact HB.out | apply aH | apply aC | apply aG | refine aJ ?_ GE355.out) | exact HB.out)⟩
def impl_NodeNew.f (l0 : List (S38)) : Option ((List (List (S38)))) := if (l0.length : Int) = 0 then (some ([] : List (List (S38)))) else ((impl_copyKeys.f l0).bind fun t => (some (([t] : List (List (S38))))))
set_option maxHeartbeats 8000000 in
set_option maxRecDepth 100000 in
theorem impl_NodeNew.calls (A0 : Option Addr) (c0 : Nat) (l0 : List (S38)) (r : List (List (S38))) (w : World) (hr0 : Kd.C k38 w A0 l0.length l0) (hc0 : l0.length ≤ c0) (h : impl_NodeNew.f l0 = some r) :
  Calls Try.prog 64 #[.slice A0 l0.length c0] w fun e w' => ∃ v0_ : Value, e = .returned (.agg #[v0_]) ∧ Kd.S (Kd.slice 38 k38) 45 w' w.heap.size (fun _ => True) v0_ r ∧ Below w.heap.size w w' := by
 have hu := Try.underlying59
 have HR0 := aA.mk hr0
 have HC0 := aA.mk hc0
 clear hr0 hc0
 unfold impl_NodeNew.f at h
 by_cases c2 : (l0.length : Int) = 0
 ·rw [if_pos c2] at h
  have c2b0 : ((l0.length : Int) == 0) = true := beq_iff_eq.mpr c2
  clear c2
  obtain rfl := Option.some.inj h
  clear h
  go_enter Try.func64, Try.ntmps64
  go_wp2_with (first | ((with_reducible refine aW (N := 2) rfl ?_); refine aX ?hg (N := 2) ?hd (cs := #[.slice none 0 0]) (t := 59) ?hr ?_; (case hd => rfl); (case hg => rfl); (case hr => first | (go_simp; done) | (go_simp; rfl)); intro gb hg w3 hbox hb; have HB := aA.mk hb; have BK := aA.mk hbox; have GE := aA.mk (Nat.le_of_eq hg.symm); clear hb hbox hg; have hz0 : w3.cell? ⟨gb, 0, none⟩ = some (.slice none 0 0) := (aE BK.out 0).trans rfl; have hz1 := aD BK.out 0))
  refine bodyPost_ret (results_cell_row rfl _ _ gb 59 #[.slice none 0 0] (0, 0) _ rfl (by refine bG (cs := #[.slice none 0 0]) ?_ 0 _ rfl; exact BK.out) Try.underlying59 rfl (by kernel_rfl)) rfl ?_
  exact ⟨_, rfl, Kd.S_nil _ _ _ _ _, aJ HB.out GE.out⟩
 ·rw [if_neg c2] at h
  have c2b0 : ((l0.length : Int) == 0) = false := beq_eq_false_iff_ne.mpr c2
  clear c2
  obtain ⟨t, ht, h⟩ := lF h
  obtain rfl := Option.some.inj h
  clear h
  have HT := aA.mk ht
  clear ht
  go_enter Try.func64, Try.ntmps64
  go_wp2_with (first | ((with_reducible refine aW (N := 2) rfl ?_); refine aX ?hg (N := 2) ?hd (cs := #[.slice none 0 0]) (t := 59) ?hr ?_; (case hd => rfl); (case hg => rfl); (case hr => first | (go_simp; done) | (go_simp; rfl)); intro gb hg w3 hbox hb; have HB := aA.mk hb; have BK := aA.mk hbox; have GE := aA.mk (Nat.le_of_eq hg.symm); clear hb hbox hg) | ((with_reducible refine bB (f := 91) rfl ?_); refine bP (some 8) rfl rfl Try.func91 (by kernel_rfl) rfl #[.slice A0 l0.length c0] rfl (by (try simp only [List.map_toArray, List.map_cons, List.map_nil]); first | done | rfl) ?_; (with_reducible refine (impl_copyKeys.calls _ _ l0 t _ ?s1 ?s2 HT.out).mono ?_); (case s1 => exact Kd.bJ HR0.out HB.out); (case s2 => exact HC0.out); rintro e w7 ⟨v, rfl, ho0, hb⟩; refine ⟨_, rfl, ?_⟩; obtain ⟨Ao, co, eo⟩ := Kd.R_slice ho0; subst eo; have HO := aA.mk (Kd.R_bound (Kd.R_lower ho0 HB.out.size)); have HB7 := aA.mk (aU HB.out hb); have BK7 := aA.mk (aV BK.out hb); clear ho0 hb) | ((with_reducible refine aW (N := 9) rfl ?_); refine Kd.S_lits (Kd.slice 38 k38) w.heap.size 45 ?hg (N := 9) ?hd (xs := ([t] : List (List (S38)))) (inner := [.slice Ao t.length co]) (ok := fun _ => True) (fun j k_ => j = 0 ∧ k_ < w7.heap.size) ?hr rfl ?hp ?ha (fun _ _ _ => trivial) trivial HB7.out HB7.out.size (by simp) ?_; (case hd => rfl); (case hg => rfl); (case hr => first | (go_simp; done) | (go_simp; rfl)); (case ha => exact (fun i j k h1 h2 => h1.1.trans h2.1.symm)); (case hp => exact (fun j x hx => by match j, hx with | 0, hx => (obtain rfl := Option.some.inj hx; exact ⟨_, rfl, Kd.bK HO.out (fun k hk => ⟨rfl, hk.2.2.1⟩)⟩) | j + 1, hx => simp at hx)); intro v1 w9 ho10 hb hg_ hnew_; obtain ⟨A1, c1, e1⟩ := Kd.S_slice ho10; subst e1; have BK9 := aA.mk (blk_grown BK7.out hg_ (by simp)); have HS := aA.mk ho10; have HB9 := aA.mk hb; clear hb hg_ hnew_ ho10; have hz0 : w9.cell? ⟨gb, 0, none⟩ = some (.slice none 0 0) := (aE BK9.out 0).trans rfl; have hz1 := aD BK9.out 0))
  refine bodyPost_ret (results_cell_row rfl _ _ gb 59 #[.slice A1 ([t] : List (List (S38))).length c1] (0, 0) _ rfl (by refine bG (cs := #[.slice none 0 0]) ?_ 0 _ rfl; exact BK9.out) Try.underlying59 rfl (by kernel_rfl)) rfl ?_
  exact ⟨_, rfl, Kd.S_mono (Kd.S_far (p := ⟨gb, 0, none⟩) (Kd.S_types HS.out BK9.out (by decide)) (fun _ hk => hk.2) _) (fun _ _ => trivial), aJ HB9.out GE.out⟩
end Go.Proofs.Ytamjbjkbineafaa.PFnExactTreePack

namespace Go.Proofs.Ytamjbjkbineafaa.PFnExactTreePack
open Go.RowKit Go.Proofs.YtamjbjkbineafaaW.PrintWords Go.Proofs.YtamjbjkbineafaaW.PrintLast Go.Proofs.YtamjbjkbineafaaW.PrintMore
attribute [local go_sem] max2_int min2_int max_two min_two max_three min_three max_four min_four   -- for this text's walks alone
set_option linter.unusedVariables false
set_option linter.unusedSimpArgs false
def impl_NodePack.f (k : Nat) (l0_0 : List (List (S38))) : Option ((List (List (S38)))) := (impl_NodeKeys.f k l0_0).bind fun t368 => ((impl_NodeNew.f t368).bind fun t371 => (some t371))
set_option maxHeartbeats 8000000 in
set_option maxRecDepth 100000 in
theorem impl_NodePack.calls (k : Nat) (A0_0 : Option Addr) (c0_0 : Nat) (l0_0 : List (List (S38))) (r : List (List (S38))) (w : World) (hr0_0 : Kd.C (Kd.slice 38 k38) w A0_0 l0_0.length l0_0) (hc0_0 : l0_0.length ≤ c0_0) (h : impl_NodePack.f k l0_0 = some r) :
  Calls Try.prog 33 #[.agg #[.slice A0_0 l0_0.length c0_0]] w fun e w' => ∃ v0_ : Value, e = .returned (.agg #[v0_]) ∧ Kd.S (Kd.slice 38 k38) 45 w' w.heap.size (fun _ => True) v0_ r ∧ Below w.heap.size w w' := by
 have hu59 := Try.underlying59
 have HR0_0 := aA.mk hr0_0
 have HC0_0 := aA.mk hc0_0
 clear hr0_0 hc0_0
 have HB := aA.mk (Below.refl w.heap.size w)
 have H : ((impl_NodeKeys.f k l0_0).bind fun t368 => ((impl_NodeNew.f t368).bind fun t371 => (some t371))) = some r := h
 clear h
 replace H := lF H
 obtain ⟨t368, A20, H⟩ := H
 replace H : ((impl_NodeNew.f t368).bind fun t371 => (some t371)) = some r := H
 have A2 := aA.mk A20
 clear A20
 replace H := lF H
 obtain ⟨t371, A30, H⟩ := H
 replace H : (some t371) = some r := H
 have A3 := aA.mk A30
 clear A30
 obtain rfl := Option.some.inj H
 go_enter Try.func33, Try.ntmps33
 go_wp2_with (first | ((with_reducible refine aW (N := 1) rfl ?_); refine aX ?hg (N := 1) ?hd (cs := #[.slice A0_0 l0_0.length c0_0]) (t := 59) ?hr ?_; (case hd => rfl); (case hg => rfl); (case hr => first | (go_simp; done) | (go_simp; rfl)); intro gb366 hg w4 hbox hb; have n0_ := aA.mk (aU (by repeat (first | (with_reducible first | exact HB.out | apply aH | apply aC | apply aG) | exact HB.out)) hb); have n1_ := aA.mk (hbox); have n2_ := aA.mk ((by rw [hg]; exact (aT (by repeat (first | (with_reducible first | exact HB.out | apply aH | apply aC | apply aG) | exact HB.out))) : w.heap.size ≤ gb366)); have n3_ := aA.mk ((by rw [hg]; exact (aT (by repeat (first | (with_reducible first | exact HB.out | apply aH | apply aC | apply aG) | exact HB.out))) : w.heap.size ≤ gb366)); clear HB; have HB := n0_; have BK366 := n1_; have GW366 := n2_; have GE366 := n3_; clear n0_ n1_ n2_ n3_; clear hb hbox hg) | ((with_reducible refine aW (N := 2) rfl ?_); refine aX ?hg (N := 2) ?hd (cs := #[.slice none 0 0]) (t := 59) ?hr ?_; (case hd => rfl); (case hg => rfl); (case hr => first | (go_simp; done) | (go_simp; rfl)); intro gb367 hg w5 hbox hb; have n0_ := aA.mk (aV (g := gb366) (o := .cells #[.slice A0_0 l0_0.length c0_0] 59 (0, 0)) (by (with_reducible repeat (first | refine aN ?_ _ | refine aQ ?_ | refine aM ?_ _)); exact BK366.out) hb); have n1_ := aA.mk (aU (by repeat (first | (with_reducible first | exact HB.out | apply aH | apply aC | apply aG | refine aJ ?_ GE366.out) | exact HB.out)) hb); have n2_ := aA.mk (hbox); have n3_ := aA.mk ((by rw [hg]; exact (aT (by repeat (first | (with_reducible first | exact HB.out | apply aH | apply aC | apply aG | refine aJ ?_ GE366.out) | exact HB.out))) : w.heap.size ≤ gb367)); have n4_ := aA.mk ((by rw [hg]; exact (aT (by repeat (first | (with_reducible first | exact HB.out | apply aH | apply aC | apply aG | refine aJ ?_ GE366.out) | exact HB.out))) : w.heap.size ≤ gb367)); have n5_ := aA.mk ((by rw [hg]; exact Nat.ne_of_lt (bF (g := gb366) (o := .cells #[.slice A0_0 l0_0.length c0_0] 59 (0, 0)) (by (with_reducible repeat (first | refine aN ?_ _ | refine aQ ?_ | refine aM ?_ _)); exact BK366.out)) : gb366 ≠ gb367)); have n6_ := aA.mk ((by rw [hg]; exact Nat.ne_of_gt (bF (g := gb366) (o := .cells #[.slice A0_0 l0_0.length c0_0] 59 (0, 0)) (by (with_reducible repeat (first | refine aN ?_ _ | refine aQ ?_ | refine aM ?_ _)); exact BK366.out)) : gb367 ≠ gb366)); clear BK366; clear HB; have BK366 := n0_; have HB := n1_; have BK367 := n2_; have GW367 := n3_; have GE367 := n4_; have NB366_367 := n5_; have NB367_366 := n6_; clear n0_ n1_ n2_ n3_ n4_ n5_ n6_; clear hb hbox hg; have hnb6 := NB366_367.out; have hnc6 := NB367_366.out; have hcz7_0 : w5.cell? ⟨gb366, 0, none⟩ = some (.slice A0_0 l0_0.length c0_0) := (aE BK366.out 0).trans rfl; have hfz7_0 := aD BK366.out 0) | ((with_reducible refine bB (f := 46) rfl ?_); refine bP (some 4) rfl rfl Try.func46 (by kernel_rfl) rfl #[.agg #[.slice A0_0 l0_0.length c0_0]] rfl (by (try simp only [List.map_toArray, List.map_cons, List.map_nil]); first | done | rfl | (simp only [List.length_drop, List.length_take]; rfl)) ?_; (with_reducible refine (impl_NodeKeys.calls k _ _ l0_0 t368 _ ?side1 ?side2 A2.out).mono ?_); (case side1 => repeat (first | exact (Kd.bJ HR0_0.out HB.out) | (with_reducible refine Kd.bM ?_ _) | (with_reducible refine Kd.bN ?_ _) | (with_reducible refine Kd.bR ?_))); (case side2 => exact HC0_0.out); rintro e w8 ⟨v369, rfl, ho0, hb⟩; refine ⟨_, rfl, ?_⟩; have n0_ := aA.mk (Kd.R_lower ho0 (aT (by repeat (first | (with_reducible first | exact HB.out | apply aH | apply aC | apply aG | refine aJ ?_ GE366.out | refine aJ ?_ GE367.out) | exact HB.out)))); have n1_ := aA.mk (aV (g := gb366) (o := .cells #[.slice A0_0 l0_0.length c0_0] 59 (0, 0)) (by (with_reducible repeat (first | refine aN ?_ _ | refine aQ ?_ | refine aM ?_ _)); exact BK366.out) hb); have n2_ := aA.mk (aV (g := gb367) (o := .cells #[.slice none 0 0] 59 (0, 0)) (by (with_reducible repeat (first | refine aN ?_ _ | refine aQ ?_ | refine aM ?_ _)); exact BK367.out) hb); have n3_ := aA.mk (aU (by repeat (first | (with_reducible first | exact HB.out | apply aH | apply aC | apply aG | refine aJ ?_ GE366.out | refine aJ ?_ GE367.out) | exact HB.out)) hb); clear BK366; clear BK367; clear HB; have HO370 := n0_; have BK366 := n1_; have BK367 := n2_; have HB := n3_; clear n0_ n1_ n2_ n3_; (try clear hb); (try clear ho0); obtain ⟨Ao9, co9, eo9⟩ := Kd.R_slice HO370.out; subst eo9) | ((with_reducible refine bB (f := 64) rfl ?_); refine bP (some 5) rfl rfl Try.func64 (by kernel_rfl) rfl #[.slice Ao9 t368.length co9] rfl (by (try simp only [List.map_toArray, List.map_cons, List.map_nil]); first | done | rfl | (simp only [List.length_drop, List.length_take]; rfl)) ?_; (with_reducible refine (impl_NodeNew.calls _ _ t368 t371 _ ?side1 ?side2 A3.out).mono ?_); (case side1 => repeat (first | exact (Kd.R_reads' HO370.out).2.2 | (with_reducible refine Kd.bM ?_ _) | (with_reducible refine Kd.bN ?_ _) | (with_reducible refine Kd.bR ?_))); (case side2 => exact (Kd.R_reads' HO370.out).2.1); rintro e w10 ⟨v372, rfl, ho0, hb⟩; refine ⟨_, rfl, ?_⟩; have n0_ := aA.mk (Kd.bU (by (with_reducible repeat (first | apply Kd.aY | apply Kd.aZ | apply Kd.bA)); exact HO370.out) hb); have n1_ := aA.mk (Kd.S_lower (Kd.S_new' ho0 (Kd.R_lt (by (with_reducible repeat (first | apply Kd.aY | apply Kd.aZ | apply Kd.bA)); exact HO370.out))) (aT (by repeat (first | (with_reducible first | exact HB.out | apply aH | apply aC | apply aG | refine aJ ?_ GE366.out | refine aJ ?_ GE367.out) | exact HB.out)))); have n2_ := aA.mk (aV (g := gb366) (o := .cells #[.slice A0_0 l0_0.length c0_0] 59 (0, 0)) (by (with_reducible repeat (first | refine aN ?_ _ | refine aQ ?_ | refine aM ?_ _)); exact BK366.out) hb); have n3_ := aA.mk (aV (g := gb367) (o := .cells #[.slice none 0 0] 59 (0, 0)) (by (with_reducible repeat (first | refine aN ?_ _ | refine aQ ?_ | refine aM ?_ _)); exact BK367.out) hb); have n4_ := aA.mk (aU (by repeat (first | (with_reducible first | exact HB.out | apply aH | apply aC | apply aG | refine aJ ?_ GE366.out | refine aJ ?_ GE367.out) | exact HB.out)) hb); clear HO370; clear BK366; clear BK367; clear HB; have HO370 := n0_; have HO373 := n1_; have BK366 := n2_; have BK367 := n3_; have HB := n4_; clear n0_ n1_ n2_ n3_ n4_; (try clear hb); (try clear ho0); obtain ⟨Ao11, co11, eo11⟩ := Kd.S_slice HO373.out; subst eo11; have hcz12_0 : w10.cell? ⟨gb367, 0, none⟩ = some (.slice none 0 0) := (aE BK367.out 0).trans rfl; have hfz12_0 := aD BK367.out 0))
 refine bodyPost_ret (results_cell_row rfl _ _ gb367 59 #[.slice Ao11 t371.length co11] (0, 0) _ rfl (by (with_reducible repeat (first | refine aN ?_ _ | refine aQ ?_ | refine aM ?_ _)); refine bG (cs := #[.slice none 0 0]) ?_ 0 _ rfl; (with_reducible repeat (first | refine aN ?_ _ | refine aQ ?_ | refine aM ?_ _)); exact BK367.out) Try.underlying59 rfl (by kernel_rfl)) rfl ?_
 exact ⟨_, by first | rfl | (simp [errW_none, errW_some] <;> rfl) | (simp [*, errW_none, errW_some] <;> rfl), by (with_reducible repeat (first | apply Kd.S_alloc | apply Kd.S_drewN | apply Kd.S_drew)); exact Kd.S_mono (Kd.S_far (p := ⟨gb367, 0, none⟩) (Kd.S_types HO373.out BK367.out (by decide)) (fun _ hk => hk.2) (.slice Ao11 t371.length co11)) (fun _ hk => trivial), by repeat (first | (with_reducible first | exact HB.out | apply aH | apply aC | apply aG | refine aJ ?_ GE366.out | refine aJ ?_ GE367.out) | exact HB.out)⟩
def impl_TreePack.f (k : Nat) (l0_0 : List Int) (l0_1 : List (S59)) (a1 : Int) : Option (List Int × (List (S59))) := (impl_copyTree.f k l0_0 l0_1).bind fun bt376 => ((impl_within.f a1 0 (wrap64 ((l0_1.length : Int) - 1))).bind fun t383 => (if t383 = true then (if 0 ≤ a1 then (if a1 < (l0_1.length : Int) then ((impl_NodePack.f k ((rd_T59 l0_1 a1).f0)).bind fun t385 => (if a1 < (bt376.2.length : Int) then (some (bt376.1, (bt376.2.set (a1 : Int).toNat (⟨t385⟩ : S59)))) else (none))) else (none)) else (none)) else (some (bt376.1, bt376.2))))
def impl_TreePack.T3 : Bool × List (List Nat × List Nat) := (true, [([], []), ([0], [0]), ([], []), ([], []), ([3], [3]), ([], []), ([4, 5], [4, 5]), ([6], [6]), ([7], [7]), ([1, 2, 0, 1, 2, 3, 4, 5, 6, 7, 8], [1, 2]), ([9, 8, 8, 0, 1, 2, 3, 4, 5, 6, 7, 8], [8, 9])])
def impl_TreePack.B3 : List Nat := [0, 1, 0, 0, 8, 0, 56, 120, 248, 511, 1023]
def laws_eqIntS.l0 : Nat → List Int → List Int → Int → Option (Bool)
 | 0, _, _, _ => none
 | k + 1, x0, x1, x5 => if x5 < (x0.length : Int) then (if 0 ≤ x5 then (if x5 < (x1.length : Int) then (if (rd x0 x5) = (rd x1 x5) then (laws_eqIntS.l0 k x0 x1 (wrap64 (x5 + 1))) else (some false)) else (none)) else (none)) else (some true)
def laws_eqIntS.f (k : Nat) (l0 : List Int) (l1 : List Int) : Option (Bool) := if (l0.length : Int) = (l1.length : Int) then (laws_eqIntS.l0 k l0 l1 0) else (some false)
set_option maxHeartbeats 8000000 in
set_option maxRecDepth 100000 in
theorem laws_eqIntS.calls (k : Nat) (A0 : Option Addr) (c0 : Nat) (l0 : List Int) (A1 : Option Addr) (c1 : Nat) (l1 : List Int) (r : Bool) (w : World) (hr0 : Kd.C (Kd.int .i64) w A0 l0.length l0) (hc0 : l0.length ≤ c0) (hr1 : Kd.C (Kd.int .i64) w A1 l1.length l1) (hc1 : l1.length ≤ c1) (h : laws_eqIntS.f k l0 l1 = some r) :
  Calls Try.prog 34 #[.slice A0 l0.length c0, .slice A1 l1.length c1] w fun e w' => e = .returned (.bool r) ∧ bH w w' := by
 have HR0 := aA.mk hr0
 have HC0 := aA.mk hc0
 clear hr0 hc0
 have HR1 := aA.mk hr1
 have HC1 := aA.mk hc1
 clear hr1 hc1
 have H : (if (l0.length : Int) = (l1.length : Int) then (laws_eqIntS.l0 k l0 l1 0) else (some false)) = some r := h
 clear h
 by_cases c3 : (l0.length : Int) = (l1.length : Int)
 ·rw [if_pos c3] at H
  have c3b0 : ((l0.length : Int) == (l1.length : Int)) = true := beq_iff_eq.mpr c3
  have c3b1 : ((l0.length : Int) != (l1.length : Int)) = false := bne_eq_false_iff_eq.mpr c3
  have c3b2 : (l0.length == l1.length) = true := by first | simpa using c3 | (simp at c3 ⊢; omega)
  clear c3
  have H' := aA.mk H
  clear H
  go_enter Try.func34, Try.ntmps34
  go_wp2
  repeat (go_quiet (fail); try go_wp2)
  go_loopg [5] k (fun kq v5 w' => ∃ (x5_1 : Int), v5 = .int .i64 x5_1 ∧ aA (laws_eqIntS.l0 kq l0 l1 x5_1 = some r) ∧ aA (kq ≤ k) ∧ bH w w')
  case atStart => exact ⟨(0), (by first | rfl | (simp; done) | (simp [*]; done)), H', ⟨Nat.le_refl _⟩, by repeat (first | exact bH.refl _ | apply bH.step)⟩
  case round =>
   clear H'
   try clear c1
   try clear p2
   try clear c3
   try clear c3b0
   try clear c3b1
   try clear c3b2
   obtain ⟨x5_1, rfl, HA, HK1, ⟨m1, rfl⟩⟩ := hrel
   cases gk with
   | zero => exact absurd HA.out (by simp [laws_eqIntS.l0])
   | succ k1 =>
    have H := HA.out
    clear HA
    simp only [laws_eqIntS.l0] at H
    by_cases c4 : x5_1 < (l0.length : Int)
    ·rw [if_pos c4] at H
     have c4b0 : decide (x5_1 < (l0.length : Int)) = true := decide_eq_true c4
     clear c4
     by_cases c5 : 0 ≤ x5_1
     ·rw [if_pos c5] at H
      have c5b0 : decide (0 ≤ x5_1) = true := decide_eq_true c5
      clear c5
      by_cases c6 : x5_1 < (l1.length : Int)
      ·rw [if_pos c6] at H
       have c6b0 : decide (x5_1 < (l1.length : Int)) = true := decide_eq_true c6
       clear c6
       by_cases c7 : (rd l0 x5_1) = (rd l1 x5_1)
       ·rw [if_pos c7] at H
        have c7b0 : ((rd l0 x5_1) == (rd l1 x5_1)) = true := beq_iff_eq.mpr c7
        have c7b1 : ((rd l0 x5_1) != (rd l1 x5_1)) = false := bne_eq_false_iff_eq.mpr c7
        clear c7
        have H' := aA.mk H
        clear H
        have p389 : 0 ≤ (x5_1 : Int) := lE (by first | (with_reducible assumption) | assumption)
        have q389 : x5_1 < (l0.length : Int) := lE (by first | (with_reducible assumption) | assumption)
        obtain ⟨ad389, e389, hx389_0⟩ := Kd.at_int HR0.out x5_1 p389 q389
        cases e389
        replace p389 := eq_true p389
        replace q389 := eq_true q389
        have p390 : 0 ≤ (x5_1 : Int) := lE (by first | (with_reducible assumption) | assumption)
        have q390 : x5_1 < (l1.length : Int) := lE (by first | (with_reducible assumption) | assumption)
        obtain ⟨ad390, e390, hx390_0⟩ := Kd.at_int HR1.out x5_1 p390 q390
        cases e390
        replace p390 := eq_true p390
        replace q390 := eq_true q390
        go_wp2
        repeat (go_quiet (fail); try go_wp2)
        go_roundg k1
        case measure => have := HK1.out; omega
        case rel => exact ⟨(wrap64 (x5_1 + 1)), (by first | rfl | (simp; done) | (simp [*]; done)), H', ⟨by have := HK1.out; omega⟩, by repeat (first | exact bH.refl _ | apply bH.step)⟩
       ·rw [if_neg c7] at H
        have c7b0 : ((rd l0 x5_1) == (rd l1 x5_1)) = false := beq_eq_false_iff_ne.mpr c7
        have c7b1 : ((rd l0 x5_1) != (rd l1 x5_1)) = true := bne_iff_ne.mpr c7
        obtain rfl := Option.some.inj H
        have p389 : 0 ≤ (x5_1 : Int) := lE (by first | (with_reducible assumption) | assumption)
        have q389 : x5_1 < (l0.length : Int) := lE (by first | (with_reducible assumption) | assumption)
        obtain ⟨ad389, e389, hx389_0⟩ := Kd.at_int HR0.out x5_1 p389 q389
        cases e389
        replace p389 := eq_true p389
        replace q389 := eq_true q389
        have p390 : 0 ≤ (x5_1 : Int) := lE (by first | (with_reducible assumption) | assumption)
        have q390 : x5_1 < (l1.length : Int) := lE (by first | (with_reducible assumption) | assumption)
        obtain ⟨ad390, e390, hx390_0⟩ := Kd.at_int HR1.out x5_1 p390 q390
        cases e390
        replace p390 := eq_true p390
        replace q390 := eq_true q390
        go_wp2
        repeat (go_quiet (fail); try go_wp2)
        go_ret
        exact ⟨by first | rfl | (simp; done) | (simp [*]; done), by repeat (first | exact bH.refl _ | apply bH.step)⟩
      ·rw [if_neg c6] at H
       exact absurd H (by simp)
     ·rw [if_neg c5] at H
      exact absurd H (by simp)
    ·rw [if_neg c4] at H
     have c4b0 : decide (x5_1 < (l0.length : Int)) = false := decide_eq_false c4
     clear c4
     obtain rfl := Option.some.inj H
     go_wp2
     repeat (go_quiet (fail); try go_wp2)
     go_ret
     exact ⟨by first | rfl | (simp; done) | (simp [*]; done), by repeat (first | exact bH.refl _ | apply bH.step)⟩
 ·rw [if_neg c3] at H
  have c3b0 : ((l0.length : Int) == (l1.length : Int)) = false := beq_eq_false_iff_ne.mpr c3
  have c3b1 : ((l0.length : Int) != (l1.length : Int)) = true := bne_iff_ne.mpr c3
  have c3b2 : (l0.length == l1.length) = false := by first | simpa using c3 | (simp at c3 ⊢; omega)
  obtain rfl := Option.some.inj H
  go_enter Try.func34, Try.ntmps34
  go_wp2
  repeat (go_quiet (fail); try go_wp2)
  go_ret
  exact ⟨by first | rfl | (simp; done) | (simp [*]; done), by repeat (first | exact bH.refl _ | apply bH.step)⟩
def laws_eqKey.f (a0_0 : Int) (a0_1 : Int) (a0_2 : Int) (a0_3 : Int) (a0_4 : Int) (a1_0 : Int) (a1_1 : Int) (a1_2 : Int) (a1_3 : Int) (a1_4 : Int) : Option (Bool) := if a0_0 = a1_0 then (if a0_1 = a1_1 then (if a0_2 = a1_2 then (if a0_3 = a1_3 then (if a0_4 = a1_4 then (some true) else (some false)) else (some false)) else (some false)) else (some false)) else (some false)
set_option maxHeartbeats 8000000 in
set_option maxRecDepth 100000 in
theorem laws_eqKey.calls (a0_0 : Int) (a0_1 : Int) (a0_2 : Int) (a0_3 : Int) (a0_4 : Int) (a1_0 : Int) (a1_1 : Int) (a1_2 : Int) (a1_3 : Int) (a1_4 : Int) (r : Bool) (w : World) (h : laws_eqKey.f a0_0 a0_1 a0_2 a0_3 a0_4 a1_0 a1_1 a1_2 a1_3 a1_4 = some r) :
  Calls Try.prog 107 #[.agg #[.int .i64 a0_0, .int .i64 a0_1, .int .i64 a0_2, .int .i64 a0_3, .int .i64 a0_4], .agg #[.int .i64 a1_0, .int .i64 a1_1, .int .i64 a1_2, .int .i64 a1_3, .int .i64 a1_4]] w fun e w' => e = .returned (.bool r) ∧ Below w.heap.size w w' := by
 have hu38 := Try.underlying38
 have HB := aA.mk (Below.refl w.heap.size w)
 have H : (if a0_0 = a1_0 then (if a0_1 = a1_1 then (if a0_2 = a1_2 then (if a0_3 = a1_3 then (if a0_4 = a1_4 then (some true) else (some false)) else (some false)) else (some false)) else (some false)) else (some false)) = some r := h
 clear h
 by_cases c3 : a0_0 = a1_0
 ·rw [if_pos c3] at H
  have c3b0 : (a0_0 == a1_0) = true := beq_iff_eq.mpr c3
  have c3b1 : (a0_0 != a1_0) = false := bne_eq_false_iff_eq.mpr c3
  clear c3
  by_cases c4 : a0_1 = a1_1
  ·rw [if_pos c4] at H
   have c4b0 : (a0_1 == a1_1) = true := beq_iff_eq.mpr c4
   have c4b1 : (a0_1 != a1_1) = false := bne_eq_false_iff_eq.mpr c4
   clear c4
   by_cases c5 : a0_2 = a1_2
   ·rw [if_pos c5] at H
    have c5b0 : (a0_2 == a1_2) = true := beq_iff_eq.mpr c5
    have c5b1 : (a0_2 != a1_2) = false := bne_eq_false_iff_eq.mpr c5
    clear c5
    by_cases c6 : a0_3 = a1_3
    ·rw [if_pos c6] at H
     have c6b0 : (a0_3 == a1_3) = true := beq_iff_eq.mpr c6
     have c6b1 : (a0_3 != a1_3) = false := bne_eq_false_iff_eq.mpr c6
     clear c6
     by_cases c7 : a0_4 = a1_4
     ·rw [if_pos c7] at H
      have c7b0 : (a0_4 == a1_4) = true := beq_iff_eq.mpr c7
      have c7b1 : (a0_4 != a1_4) = false := bne_eq_false_iff_eq.mpr c7
      clear c7
      obtain rfl := Option.some.inj H
      go_enter Try.func107, Try.ntmps107
      go_wp2_with (first | ((with_reducible refine aW (N := 2) rfl ?_); refine aX ?hg (N := 2) ?hd (cs := #[.int .i64 a0_0, .int .i64 a0_1, .int .i64 a0_2, .int .i64 a0_3, .int .i64 a0_4]) (t := 38) ?hr ?_; (case hd => rfl); (case hg => rfl); (case hr => first | (go_simp; done) | (go_simp; rfl)); intro gb391 hg w8 hbox hb; have n0_ := aA.mk (aU (by repeat (first | (with_reducible first | exact HB.out | apply aH | apply aC | apply aG) | exact HB.out)) hb); have n1_ := aA.mk (hbox); have n2_ := aA.mk ((by rw [hg]; exact (aT (by repeat (first | (with_reducible first | exact HB.out | apply aH | apply aC | apply aG) | exact HB.out))) : w.heap.size ≤ gb391)); have n3_ := aA.mk ((by rw [hg]; exact (aT (by repeat (first | (with_reducible first | exact HB.out | apply aH | apply aC | apply aG) | exact HB.out))) : w.heap.size ≤ gb391)); clear HB; have HB := n0_; have BK391 := n1_; have GW391 := n2_; have GE391 := n3_; clear n0_ n1_ n2_ n3_; clear hb hbox hg) | ((with_reducible refine aW (N := 3) rfl ?_); refine aX ?hg (N := 3) ?hd (cs := #[.int .i64 a1_0, .int .i64 a1_1, .int .i64 a1_2, .int .i64 a1_3, .int .i64 a1_4]) (t := 38) ?hr ?_; (case hd => rfl); (case hg => rfl); (case hr => first | (go_simp; done) | (go_simp; rfl)); intro gb392 hg w9 hbox hb; have n0_ := aA.mk (aV (g := gb391) (o := .cells #[.int .i64 a0_0, .int .i64 a0_1, .int .i64 a0_2, .int .i64 a0_3, .int .i64 a0_4] 38 (0, 0)) (by (with_reducible repeat (first | refine aN ?_ _ | refine aQ ?_ | refine aM ?_ _)); exact BK391.out) hb); have n1_ := aA.mk (aU (by repeat (first | (with_reducible first | exact HB.out | apply aH | apply aC | apply aG | refine aJ ?_ GE391.out) | exact HB.out)) hb); have n2_ := aA.mk (hbox); have n3_ := aA.mk ((by rw [hg]; exact (aT (by repeat (first | (with_reducible first | exact HB.out | apply aH | apply aC | apply aG | refine aJ ?_ GE391.out) | exact HB.out))) : w.heap.size ≤ gb392)); have n4_ := aA.mk ((by rw [hg]; exact (aT (by repeat (first | (with_reducible first | exact HB.out | apply aH | apply aC | apply aG | refine aJ ?_ GE391.out) | exact HB.out))) : w.heap.size ≤ gb392)); have n5_ := aA.mk ((by rw [hg]; exact Nat.ne_of_lt (bF (g := gb391) (o := .cells #[.int .i64 a0_0, .int .i64 a0_1, .int .i64 a0_2, .int .i64 a0_3, .int .i64 a0_4] 38 (0, 0)) (by (with_reducible repeat (first | refine aN ?_ _ | refine aQ ?_ | refine aM ?_ _)); exact BK391.out)) : gb391 ≠ gb392)); have n6_ := aA.mk ((by rw [hg]; exact Nat.ne_of_gt (bF (g := gb391) (o := .cells #[.int .i64 a0_0, .int .i64 a0_1, .int .i64 a0_2, .int .i64 a0_3, .int .i64 a0_4] 38 (0, 0)) (by (with_reducible repeat (first | refine aN ?_ _ | refine aQ ?_ | refine aM ?_ _)); exact BK391.out)) : gb392 ≠ gb391)); clear BK391; clear HB; have BK391 := n0_; have HB := n1_; have BK392 := n2_; have GW392 := n3_; have GE392 := n4_; have NB391_392 := n5_; have NB392_391 := n6_; clear n0_ n1_ n2_ n3_ n4_ n5_ n6_; clear hb hbox hg; have hnb10 := NB391_392.out; have hnc10 := NB392_391.out; have hcz11_0 : w9.cell? ⟨gb391, 0, none⟩ = some (.int .i64 a0_0) := (aE BK391.out 0).trans rfl; have hcz11_1 : w9.cell? ⟨gb391, 1, none⟩ = some (.int .i64 a0_1) := (aE BK391.out 1).trans rfl; have hcz11_2 : w9.cell? ⟨gb391, 2, none⟩ = some (.int .i64 a0_2) := (aE BK391.out 2).trans rfl; have hcz11_3 : w9.cell? ⟨gb391, 3, none⟩ = some (.int .i64 a0_3) := (aE BK391.out 3).trans rfl; have hcz11_4 : w9.cell? ⟨gb391, 4, none⟩ = some (.int .i64 a0_4) := (aE BK391.out 4).trans rfl; have hfz11_0 := aD BK391.out 0; have hfz11_1 := aD BK391.out 1; have hfz11_2 := aD BK391.out 2; have hfz11_3 := aD BK391.out 3; have hfz11_4 := aD BK391.out 4; have hcz12_0 : w9.cell? ⟨gb392, 0, none⟩ = some (.int .i64 a1_0) := (aE BK392.out 0).trans rfl; have hcz12_1 : w9.cell? ⟨gb392, 1, none⟩ = some (.int .i64 a1_1) := (aE BK392.out 1).trans rfl; have hcz12_2 : w9.cell? ⟨gb392, 2, none⟩ = some (.int .i64 a1_2) := (aE BK392.out 2).trans rfl; have hcz12_3 : w9.cell? ⟨gb392, 3, none⟩ = some (.int .i64 a1_3) := (aE BK392.out 3).trans rfl; have hcz12_4 : w9.cell? ⟨gb392, 4, none⟩ = some (.int .i64 a1_4) := (aE BK392.out 4).trans rfl; have hfz12_0 := aD BK392.out 0; have hfz12_1 := aD BK392.out 1; have hfz12_2 := aD BK392.out 2; have hfz12_3 := aD BK392.out 3; have hfz12_4 := aD BK392.out 4))
      go_ret
      exact ⟨by first | rfl | (simp [errW_none, errW_some] <;> rfl) | (simp [*, errW_none, errW_some] <;> rfl), by repeat (first | (with_reducible first | exact HB.out | apply aH | apply aC | apply aG | refine aJ ?_ GE391.out | refine aJ ?_ GE392.out) | exact HB.out)⟩
     ·rw [if_neg c7] at H
      have c7b0 : (a0_4 == a1_4) = false := beq_eq_false_iff_ne.mpr c7
      have c7b1 : (a0_4 != a1_4) = true := bne_iff_ne.mpr c7
      obtain rfl := Option.some.inj H
      go_enter Try.func107, Try.ntmps107
      go_wp2_with (first | ((with_reducible refine aW (N := 2) rfl ?_); refine aX ?hg (N := 2) ?hd (cs := #[.int .i64 a0_0, .int .i64 a0_1, .int .i64 a0_2, .int .i64 a0_3, .int .i64 a0_4]) (t := 38) ?hr ?_; (case hd => rfl); (case hg => rfl); (case hr => first | (go_simp; done) | (go_simp; rfl)); intro gb391 hg w13 hbox hb; have n0_ := aA.mk (aU (by repeat (first | (with_reducible first | exact HB.out | apply aH | apply aC | apply aG) | exact HB.out)) hb); have n1_ := aA.mk (hbox); have n2_ := aA.mk ((by rw [hg]; exact (aT (by repeat (first | (with_reducible first | exact HB.out | apply aH | apply aC | apply aG) | exact HB.out))) : w.heap.size ≤ gb391)); have n3_ := aA.mk ((by rw [hg]; exact (aT (by repeat (first | (with_reducible first | exact HB.out | apply aH | apply aC | apply aG) | exact HB.out))) : w.heap.size ≤ gb391)); clear HB; have HB := n0_; have BK391 := n1_; have GW391 := n2_; have GE391 := n3_; clear n0_ n1_ n2_ n3_; clear hb hbox hg) | ((with_reducible refine aW (N := 3) rfl ?_); refine aX ?hg (N := 3) ?hd (cs := #[.int .i64 a1_0, .int .i64 a1_1, .int .i64 a1_2, .int .i64 a1_3, .int .i64 a1_4]) (t := 38) ?hr ?_; (case hd => rfl); (case hg => rfl); (case hr => first | (go_simp; done) | (go_simp; rfl)); intro gb392 hg w14 hbox hb; have n0_ := aA.mk (aV (g := gb391) (o := .cells #[.int .i64 a0_0, .int .i64 a0_1, .int .i64 a0_2, .int .i64 a0_3, .int .i64 a0_4] 38 (0, 0)) (by (with_reducible repeat (first | refine aN ?_ _ | refine aQ ?_ | refine aM ?_ _)); exact BK391.out) hb); have n1_ := aA.mk (aU (by repeat (first | (with_reducible first | exact HB.out | apply aH | apply aC | apply aG | refine aJ ?_ GE391.out) | exact HB.out)) hb); have n2_ := aA.mk (hbox); have n3_ := aA.mk ((by rw [hg]; exact (aT (by repeat (first | (with_reducible first | exact HB.out | apply aH | apply aC | apply aG | refine aJ ?_ GE391.out) | exact HB.out))) : w.heap.size ≤ gb392)); have n4_ := aA.mk ((by rw [hg]; exact (aT (by repeat (first | (with_reducible first | exact HB.out | apply aH | apply aC | apply aG | refine aJ ?_ GE391.out) | exact HB.out))) : w.heap.size ≤ gb392)); have n5_ := aA.mk ((by rw [hg]; exact Nat.ne_of_lt (bF (g := gb391) (o := .cells #[.int .i64 a0_0, .int .i64 a0_1, .int .i64 a0_2, .int .i64 a0_3, .int .i64 a0_4] 38 (0, 0)) (by (with_reducible repeat (first | refine aN ?_ _ | refine aQ ?_ | refine aM ?_ _)); exact BK391.out)) : gb391 ≠ gb392)); have n6_ := aA.mk ((by rw [hg]; exact Nat.ne_of_gt (bF (g := gb391) (o := .cells #[.int .i64 a0_0, .int .i64 a0_1, .int .i64 a0_2, .int .i64 a0_3, .int .i64 a0_4] 38 (0, 0)) (by (with_reducible repeat (first | refine aN ?_ _ | refine aQ ?_ | refine aM ?_ _)); exact BK391.out)) : gb392 ≠ gb391)); clear BK391; clear HB; have BK391 := n0_; have HB := n1_; have BK392 := n2_; have GW392 := n3_; have GE392 := n4_; have NB391_392 := n5_; have NB392_391 := n6_; clear n0_ n1_ n2_ n3_ n4_ n5_ n6_; clear hb hbox hg; have hnb15 := NB391_392.out; have hnc15 := NB392_391.out; have hcz16_0 : w14.cell? ⟨gb391, 0, none⟩ = some (.int .i64 a0_0) := (aE BK391.out 0).trans rfl; have hcz16_1 : w14.cell? ⟨gb391, 1, none⟩ = some (.int .i64 a0_1) := (aE BK391.out 1).trans rfl; have hcz16_2 : w14.cell? ⟨gb391, 2, none⟩ = some (.int .i64 a0_2) := (aE BK391.out 2).trans rfl; have hcz16_3 : w14.cell? ⟨gb391, 3, none⟩ = some (.int .i64 a0_3) := (aE BK391.out 3).trans rfl; have hcz16_4 : w14.cell? ⟨gb391, 4, none⟩ = some (.int .i64 a0_4) := (aE BK391.out 4).trans rfl; have hfz16_0 := aD BK391.out 0; have hfz16_1 := aD BK391.out 1; have hfz16_2 := aD BK391.out 2; have hfz16_3 := aD BK391.out 3; have hfz16_4 := aD BK391.out 4; have hcz17_0 : w14.cell? ⟨gb392, 0, none⟩ = some (.int .i64 a1_0) := (aE BK392.out 0).trans rfl; have hcz17_1 : w14.cell? ⟨gb392, 1, none⟩ = some (.int .i64 a1_1) := (aE BK392.out 1).trans rfl; have hcz17_2 : w14.cell? ⟨gb392, 2, none⟩ = some (.int .i64 a1_2) := (aE BK392.out 2).trans rfl; have hcz17_3 : w14.cell? ⟨gb392, 3, none⟩ = some (.int .i64 a1_3) := (aE BK392.out 3).trans rfl; have hcz17_4 : w14.cell? ⟨gb392, 4, none⟩ = some (.int .i64 a1_4) := (aE BK392.out 4).trans rfl; have hfz17_0 := aD BK392.out 0; have hfz17_1 := aD BK392.out 1; have hfz17_2 := aD BK392.out 2; have hfz17_3 := aD BK392.out 3; have hfz17_4 := aD BK392.out 4))
      go_ret
      exact ⟨by first | rfl | (simp [errW_none, errW_some] <;> rfl) | (simp [*, errW_none, errW_some] <;> rfl), by repeat (first | (with_reducible first | exact HB.out | apply aH | apply aC | apply aG | refine aJ ?_ GE391.out | refine aJ ?_ GE392.out) | exact HB.out)⟩
    ·rw [if_neg c6] at H
     have c6b0 : (a0_3 == a1_3) = false := beq_eq_false_iff_ne.mpr c6
     have c6b1 : (a0_3 != a1_3) = true := bne_iff_ne.mpr c6
     obtain rfl := Option.some.inj H
     go_enter Try.func107, Try.ntmps107
     go_wp2_with (first | ((with_reducible refine aW (N := 2) rfl ?_); refine aX ?hg (N := 2) ?hd (cs := #[.int .i64 a0_0, .int .i64 a0_1, .int .i64 a0_2, .int .i64 a0_3, .int .i64 a0_4]) (t := 38) ?hr ?_; (case hd => rfl); (case hg => rfl); (case hr => first | (go_simp; done) | (go_simp; rfl)); intro gb391 hg w18 hbox hb; have n0_ := aA.mk (aU (by repeat (first | (with_reducible first | exact HB.out | apply aH | apply aC | apply aG) | exact HB.out)) hb); have n1_ := aA.mk (hbox); have n2_ := aA.mk ((by rw [hg]; exact (aT (by repeat (first | (with_reducible first | exact HB.out | apply aH | apply aC | apply aG) | exact HB.out))) : w.heap.size ≤ gb391)); have n3_ := aA.mk ((by rw [hg]; exact (aT (by repeat (first | (with_reducible first | exact HB.out | apply aH | apply aC | apply aG) | exact HB.out))) : w.heap.size ≤ gb391)); clear HB; have HB := n0_; have BK391 := n1_; have GW391 := n2_; have GE391 := n3_; clear n0_ n1_ n2_ n3_; clear hb hbox hg) | ((with_reducible refine aW (N := 3) rfl ?_); refine aX ?hg (N := 3) ?hd (cs := #[.int .i64 a1_0, .int .i64 a1_1, .int .i64 a1_2, .int .i64 a1_3, .int .i64 a1_4]) (t := 38) ?hr ?_; (case hd => rfl); (case hg => rfl); (case hr => first | (go_simp; done) | (go_simp; rfl)); intro gb392 hg w19 hbox hb; have n0_ := aA.mk (aV (g := gb391) (o := .cells #[.int .i64 a0_0, .int .i64 a0_1, .int .i64 a0_2, .int .i64 a0_3, .int .i64 a0_4] 38 (0, 0)) (by (with_reducible repeat (first | refine aN ?_ _ | refine aQ ?_ | refine aM ?_ _)); exact BK391.out) hb); have n1_ := aA.mk (aU (by repeat (first | (with_reducible first | exact HB.out | apply aH | apply aC | apply aG | refine aJ ?_ GE391.out) | exact HB.out)) hb); have n2_ := aA.mk (hbox); have n3_ := aA.mk ((by rw [hg]; exact (aT (by repeat (first | (with_reducible first | exact HB.out | apply aH | apply aC | apply aG | refine aJ ?_ GE391.out) | exact HB.out))) : w.heap.size ≤ gb392)); have n4_ := aA.mk ((by rw [hg]; exact (aT (by repeat (first | (with_reducible first | exact HB.out | apply aH | apply aC | apply aG | refine aJ ?_ GE391.out) | exact HB.out))) : w.heap.size ≤ gb392)); have n5_ := aA.mk ((by rw [hg]; exact Nat.ne_of_lt (bF (g := gb391) (o := .cells #[.int .i64 a0_0, .int .i64 a0_1, .int .i64 a0_2, .int .i64 a0_3, .int .i64 a0_4] 38 (0, 0)) (by (with_reducible repeat (first | refine aN ?_ _ | refine aQ ?_ | refine aM ?_ _)); exact BK391.out)) : gb391 ≠ gb392)); have n6_ := aA.mk ((by rw [hg]; exact Nat.ne_of_gt (bF (g := gb391) (o := .cells #[.int .i64 a0_0, .int .i64 a0_1, .int .i64 a0_2, .int .i64 a0_3, .int .i64 a0_4] 38 (0, 0)) (by (with_reducible repeat (first | refine aN ?_ _ | refine aQ ?_ | refine aM ?_ _)); exact BK391.out)) : gb392 ≠ gb391)); clear BK391; clear HB; have BK391 := n0_; have HB := n1_; have BK392 := n2_; have GW392 := n3_; have GE392 := n4_; have NB391_392 := n5_; have NB392_391 := n6_; clear n0_ n1_ n2_ n3_ n4_ n5_ n6_; clear hb hbox hg; have hnb20 := NB391_392.out; have hnc20 := NB392_391.out; have hcz21_0 : w19.cell? ⟨gb391, 0, none⟩ = some (.int .i64 a0_0) := (aE BK391.out 0).trans rfl; have hcz21_1 : w19.cell? ⟨gb391, 1, none⟩ = some (.int .i64 a0_1) := (aE BK391.out 1).trans rfl; have hcz21_2 : w19.cell? ⟨gb391, 2, none⟩ = some (.int .i64 a0_2) := (aE BK391.out 2).trans rfl; have hcz21_3 : w19.cell? ⟨gb391, 3, none⟩ = some (.int .i64 a0_3) := (aE BK391.out 3).trans rfl; have hcz21_4 : w19.cell? ⟨gb391, 4, none⟩ = some (.int .i64 a0_4) := (aE BK391.out 4).trans rfl; have hfz21_0 := aD BK391.out 0; have hfz21_1 := aD BK391.out 1; have hfz21_2 := aD BK391.out 2; have hfz21_3 := aD BK391.out 3; have hfz21_4 := aD BK391.out 4; have hcz22_0 : w19.cell? ⟨gb392, 0, none⟩ = some (.int .i64 a1_0) := (aE BK392.out 0).trans rfl; have hcz22_1 : w19.cell? ⟨gb392, 1, none⟩ = some (.int .i64 a1_1) := (aE BK392.out 1).trans rfl; have hcz22_2 : w19.cell? ⟨gb392, 2, none⟩ = some (.int .i64 a1_2) := (aE BK392.out 2).trans rfl; have hcz22_3 : w19.cell? ⟨gb392, 3, none⟩ = some (.int .i64 a1_3) := (aE BK392.out 3).trans rfl; have hcz22_4 : w19.cell? ⟨gb392, 4, none⟩ = some (.int .i64 a1_4) := (aE BK392.out 4).trans rfl; have hfz22_0 := aD BK392.out 0; have hfz22_1 := aD BK392.out 1; have hfz22_2 := aD BK392.out 2; have hfz22_3 := aD BK392.out 3; have hfz22_4 := aD BK392.out 4))
     go_ret
     exact ⟨by first | rfl | (simp [errW_none, errW_some] <;> rfl) | (simp [*, errW_none, errW_some] <;> rfl), by repeat (first | (with_reducible first | exact HB.out | apply aH | apply aC | apply aG | refine aJ ?_ GE391.out | refine aJ ?_ GE392.out) | exact HB.out)⟩
   ·rw [if_neg c5] at H
    have c5b0 : (a0_2 == a1_2) = false := beq_eq_false_iff_ne.mpr c5
    have c5b1 : (a0_2 != a1_2) = true := bne_iff_ne.mpr c5
    obtain rfl := Option.some.inj H
    go_enter Try.func107, Try.ntmps107
    go_wp2_with (first | ((with_reducible refine aW (N := 2) rfl ?_); refine aX ?hg (N := 2) ?hd (cs := #[.int .i64 a0_0, .int .i64 a0_1, .int .i64 a0_2, .int .i64 a0_3, .int .i64 a0_4]) (t := 38) ?hr ?_; (case hd => rfl); (case hg => rfl); (case hr => first | (go_simp; done) | (go_simp; rfl)); intro gb391 hg w23 hbox hb; have n0_ := aA.mk (aU (by repeat (first | (with_reducible first | exact HB.out | apply aH | apply aC | apply aG) | exact HB.out)) hb); have n1_ := aA.mk (hbox); have n2_ := aA.mk ((by rw [hg]; exact (aT (by repeat (first | (with_reducible first | exact HB.out | apply aH | apply aC | apply aG) | exact HB.out))) : w.heap.size ≤ gb391)); have n3_ := aA.mk ((by rw [hg]; exact (aT (by repeat (first | (with_reducible first | exact HB.out | apply aH | apply aC | apply aG) | exact HB.out))) : w.heap.size ≤ gb391)); clear HB; have HB := n0_; have BK391 := n1_; have GW391 := n2_; have GE391 := n3_; clear n0_ n1_ n2_ n3_; clear hb hbox hg) | ((with_reducible refine aW (N := 3) rfl ?_); refine aX ?hg (N := 3) ?hd (cs := #[.int .i64 a1_0, .int .i64 a1_1, .int .i64 a1_2, .int .i64 a1_3, .int .i64 a1_4]) (t := 38) ?hr ?_; (case hd => rfl); (case hg => rfl); (case hr => first | (go_simp; done) | (go_simp; rfl)); intro gb392 hg w24 hbox hb; have n0_ := aA.mk (aV (g := gb391) (o := .cells #[.int .i64 a0_0, .int .i64 a0_1, .int .i64 a0_2, .int .i64 a0_3, .int .i64 a0_4] 38 (0, 0)) (by (with_reducible repeat (first | refine aN ?_ _ | refine aQ ?_ | refine aM ?_ _)); exact BK391.out) hb); have n1_ := aA.mk (aU (by repeat (first | (with_reducible first | exact HB.out | apply aH | apply aC | apply aG | refine aJ ?_ GE391.out) | exact HB.out)) hb); have n2_ := aA.mk (hbox); have n3_ := aA.mk ((by rw [hg]; exact (aT (by repeat (first | (with_reducible first | exact HB.out | apply aH | apply aC | apply aG | refine aJ ?_ GE391.out) | exact HB.out))) : w.heap.size ≤ gb392)); have n4_ := aA.mk ((by rw [hg]; exact (aT (by repeat (first | (with_reducible first | exact HB.out | apply aH | apply aC | apply aG | refine aJ ?_ GE391.out) | exact HB.out))) : w.heap.size ≤ gb392)); have n5_ := aA.mk ((by rw [hg]; exact Nat.ne_of_lt (bF (g := gb391) (o := .cells #[.int .i64 a0_0, .int .i64 a0_1, .int .i64 a0_2, .int .i64 a0_3, .int .i64 a0_4] 38 (0, 0)) (by (with_reducible repeat (first | refine aN ?_ _ | refine aQ ?_ | refine aM ?_ _)); exact BK391.out)) : gb391 ≠ gb392)); have n6_ := aA.mk ((by rw [hg]; exact Nat.ne_of_gt (bF (g := gb391) (o := .cells #[.int .i64 a0_0, .int .i64 a0_1, .int .i64 a0_2, .int .i64 a0_3, .int .i64 a0_4] 38 (0, 0)) (by (with_reducible repeat (first | refine aN ?_ _ | refine aQ ?_ | refine aM ?_ _)); exact BK391.out)) : gb392 ≠ gb391)); clear BK391; clear HB; have BK391 := n0_; have HB := n1_; have BK392 := n2_; have GW392 := n3_; have GE392 := n4_; have NB391_392 := n5_; have NB392_391 := n6_; clear n0_ n1_ n2_ n3_ n4_ n5_ n6_; clear hb hbox hg; have hnb25 := NB391_392.out; have hnc25 := NB392_391.out; have hcz26_0 : w24.cell? ⟨gb391, 0, none⟩ = some (.int .i64 a0_0) := (aE BK391.out 0).trans rfl; have hcz26_1 : w24.cell? ⟨gb391, 1, none⟩ = some (.int .i64 a0_1) := (aE BK391.out 1).trans rfl; have hcz26_2 : w24.cell? ⟨gb391, 2, none⟩ = some (.int .i64 a0_2) := (aE BK391.out 2).trans rfl; have hcz26_3 : w24.cell? ⟨gb391, 3, none⟩ = some (.int .i64 a0_3) := (aE BK391.out 3).trans rfl; have hcz26_4 : w24.cell? ⟨gb391, 4, none⟩ = some (.int .i64 a0_4) := (aE BK391.out 4).trans rfl; have hfz26_0 := aD BK391.out 0; have hfz26_1 := aD BK391.out 1; have hfz26_2 := aD BK391.out 2; have hfz26_3 := aD BK391.out 3; have hfz26_4 := aD BK391.out 4; have hcz27_0 : w24.cell? ⟨gb392, 0, none⟩ = some (.int .i64 a1_0) := (aE BK392.out 0).trans rfl; have hcz27_1 : w24.cell? ⟨gb392, 1, none⟩ = some (.int .i64 a1_1) := (aE BK392.out 1).trans rfl; have hcz27_2 : w24.cell? ⟨gb392, 2, none⟩ = some (.int .i64 a1_2) := (aE BK392.out 2).trans rfl; have hcz27_3 : w24.cell? ⟨gb392, 3, none⟩ = some (.int .i64 a1_3) := (aE BK392.out 3).trans rfl; have hcz27_4 : w24.cell? ⟨gb392, 4, none⟩ = some (.int .i64 a1_4) := (aE BK392.out 4).trans rfl; have hfz27_0 := aD BK392.out 0; have hfz27_1 := aD BK392.out 1; have hfz27_2 := aD BK392.out 2; have hfz27_3 := aD BK392.out 3; have hfz27_4 := aD BK392.out 4))
    go_ret
    exact ⟨by first | rfl | (simp [errW_none, errW_some] <;> rfl) | (simp [*, errW_none, errW_some] <;> rfl), by repeat (first | (with_reducible first | exact HB.out | apply aH | apply aC | apply aG | refine aJ ?_ GE391.out | refine aJ ?_ GE392.out) | exact HB.out)⟩
  ·rw [if_neg c4] at H
   have c4b0 : (a0_1 == a1_1) = false := beq_eq_false_iff_ne.mpr c4
   have c4b1 : (a0_1 != a1_1) = true := bne_iff_ne.mpr c4
   obtain rfl := Option.some.inj H
   go_enter Try.func107, Try.ntmps107
   go_wp2_with (first | ((with_reducible refine aW (N := 2) rfl ?_); refine aX ?hg (N := 2) ?hd (cs := #[.int .i64 a0_0, .int .i64 a0_1, .int .i64 a0_2, .int .i64 a0_3, .int .i64 a0_4]) (t := 38) ?hr ?_; (case hd => rfl); (case hg => rfl); (case hr => first | (go_simp; done) | (go_simp; rfl)); intro gb391 hg w28 hbox hb; have n0_ := aA.mk (aU (by repeat (first | (with_reducible first | exact HB.out | apply aH | apply aC | apply aG) | exact HB.out)) hb); have n1_ := aA.mk (hbox); have n2_ := aA.mk ((by rw [hg]; exact (aT (by repeat (first | (with_reducible first | exact HB.out | apply aH | apply aC | apply aG) | exact HB.out))) : w.heap.size ≤ gb391)); have n3_ := aA.mk ((by rw [hg]; exact (aT (by repeat (first | (with_reducible first | exact HB.out | apply aH | apply aC | apply aG) | exact HB.out))) : w.heap.size ≤ gb391)); clear HB; have HB := n0_; have BK391 := n1_; have GW391 := n2_; have GE391 := n3_; clear n0_ n1_ n2_ n3_; clear hb hbox hg) | ((with_reducible refine aW (N := 3) rfl ?_); refine aX ?hg (N := 3) ?hd (cs := #[.int .i64 a1_0, .int .i64 a1_1, .int .i64 a1_2, .int .i64 a1_3, .int .i64 a1_4]) (t := 38) ?hr ?_; (case hd => rfl); (case hg => rfl); (case hr => first | (go_simp; done) | (go_simp; rfl)); intro gb392 hg w29 hbox hb; have n0_ := aA.mk (aV (g := gb391) (o := .cells #[.int .i64 a0_0, .int .i64 a0_1, .int .i64 a0_2, .int .i64 a0_3, .int .i64 a0_4] 38 (0, 0)) (by (with_reducible repeat (first | refine aN ?_ _ | refine aQ ?_ | refine aM ?_ _)); exact BK391.out) hb); have n1_ := aA.mk (aU (by repeat (first | (with_reducible first | exact HB.out | apply aH | apply aC | apply aG | refine aJ ?_ GE391.out) | exact HB.out)) hb); have n2_ := aA.mk (hbox); have n3_ := aA.mk ((by rw [hg]; exact (aT (by repeat (first | (with_reducible first | exact HB.out | apply aH | apply aC | apply aG | refine aJ ?_ GE391.out) | exact HB.out))) : w.heap.size ≤ gb392)); have n4_ := aA.mk ((by rw [hg]; exact (aT (by repeat (first | (with_reducible first | exact HB.out | apply aH | apply aC | apply aG | refine aJ ?_ GE391.out) | exact HB.out))) : w.heap.size ≤ gb392)); have n5_ := aA.mk ((by rw [hg]; exact Nat.ne_of_lt (bF (g := gb391) (o := .cells #[.int .i64 a0_0, .int .i64 a0_1, .int .i64 a0_2, .int .i64 a0_3, .int .i64 a0_4] 38 (0, 0)) (by (with_reducible repeat (first | refine aN ?_ _ | refine aQ ?_ | refine aM ?_ _)); exact BK391.out)) : gb391 ≠ gb392)); have n6_ := aA.mk ((by rw [hg]; exact Nat.ne_of_gt (bF (g := gb391) (o := .cells #[.int .i64 a0_0, .int .i64 a0_1, .int .i64 a0_2, .int .i64 a0_3, .int .i64 a0_4] 38 (0, 0)) (by (with_reducible repeat (first | refine aN ?_ _ | refine aQ ?_ | refine aM ?_ _)); exact BK391.out)) : gb392 ≠ gb391)); clear BK391; clear HB; have BK391 := n0_; have HB := n1_; have BK392 := n2_; have GW392 := n3_; have GE392 := n4_; have NB391_392 := n5_; have NB392_391 := n6_; clear n0_ n1_ n2_ n3_ n4_ n5_ n6_; clear hb hbox hg; have hnb30 := NB391_392.out; have hnc30 := NB392_391.out; have hcz31_0 : w29.cell? ⟨gb391, 0, none⟩ = some (.int .i64 a0_0) := (aE BK391.out 0).trans rfl; have hcz31_1 : w29.cell? ⟨gb391, 1, none⟩ = some (.int .i64 a0_1) := (aE BK391.out 1).trans rfl; have hcz31_2 : w29.cell? ⟨gb391, 2, none⟩ = some (.int .i64 a0_2) := (aE BK391.out 2).trans rfl; have hcz31_3 : w29.cell? ⟨gb391, 3, none⟩ = some (.int .i64 a0_3) := (aE BK391.out 3).trans rfl; have hcz31_4 : w29.cell? ⟨gb391, 4, none⟩ = some (.int .i64 a0_4) := (aE BK391.out 4).trans rfl; have hfz31_0 := aD BK391.out 0; have hfz31_1 := aD BK391.out 1; have hfz31_2 := aD BK391.out 2; have hfz31_3 := aD BK391.out 3; have hfz31_4 := aD BK391.out 4; have hcz32_0 : w29.cell? ⟨gb392, 0, none⟩ = some (.int .i64 a1_0) := (aE BK392.out 0).trans rfl; have hcz32_1 : w29.cell? ⟨gb392, 1, none⟩ = some (.int .i64 a1_1) := (aE BK392.out 1).trans rfl; have hcz32_2 : w29.cell? ⟨gb392, 2, none⟩ = some (.int .i64 a1_2) := (aE BK392.out 2).trans rfl; have hcz32_3 : w29.cell? ⟨gb392, 3, none⟩ = some (.int .i64 a1_3) := (aE BK392.out 3).trans rfl; have hcz32_4 : w29.cell? ⟨gb392, 4, none⟩ = some (.int .i64 a1_4) := (aE BK392.out 4).trans rfl; have hfz32_0 := aD BK392.out 0; have hfz32_1 := aD BK392.out 1; have hfz32_2 := aD BK392.out 2; have hfz32_3 := aD BK392.out 3; have hfz32_4 := aD BK392.out 4))
   go_ret
   exact ⟨by first | rfl | (simp [errW_none, errW_some] <;> rfl) | (simp [*, errW_none, errW_some] <;> rfl), by repeat (first | (with_reducible first | exact HB.out | apply aH | apply aC | apply aG | refine aJ ?_ GE391.out | refine aJ ?_ GE392.out) | exact HB.out)⟩
 ·rw [if_neg c3] at H
  have c3b0 : (a0_0 == a1_0) = false := beq_eq_false_iff_ne.mpr c3
  have c3b1 : (a0_0 != a1_0) = true := bne_iff_ne.mpr c3
  obtain rfl := Option.some.inj H
  go_enter Try.func107, Try.ntmps107
  go_wp2_with (first | ((with_reducible refine aW (N := 2) rfl ?_); refine aX ?hg (N := 2) ?hd (cs := #[.int .i64 a0_0, .int .i64 a0_1, .int .i64 a0_2, .int .i64 a0_3, .int .i64 a0_4]) (t := 38) ?hr ?_; (case hd => rfl); (case hg => rfl); (case hr => first | (go_simp; done) | (go_simp; rfl)); intro gb391 hg w33 hbox hb; have n0_ := aA.mk (aU (by repeat (first | (with_reducible first | exact HB.out | apply aH | apply aC | apply aG) | exact HB.out)) hb); have n1_ := aA.mk (hbox); have n2_ := aA.mk ((by rw [hg]; exact (aT (by repeat (first | (with_reducible first | exact HB.out | apply aH | apply aC | apply aG) | exact HB.out))) : w.heap.size ≤ gb391)); have n3_ := aA.mk ((by rw [hg]; exact (aT (by repeat (first | (with_reducible first | exact HB.out | apply aH | apply aC | apply aG) | exact HB.out))) : w.heap.size ≤ gb391)); clear HB; have HB := n0_; have BK391 := n1_; have GW391 := n2_; have GE391 := n3_; clear n0_ n1_ n2_ n3_; clear hb hbox hg) | ((with_reducible refine aW (N := 3) rfl ?_); refine aX ?hg (N := 3) ?hd (cs := #[.int .i64 a1_0, .int .i64 a1_1, .int .i64 a1_2, .int .i64 a1_3, .int .i64 a1_4]) (t := 38) ?hr ?_; (case hd => rfl); (case hg => rfl); (case hr => first | (go_simp; done) | (go_simp; rfl)); intro gb392 hg w34 hbox hb; have n0_ := aA.mk (aV (g := gb391) (o := .cells #[.int .i64 a0_0, .int .i64 a0_1, .int .i64 a0_2, .int .i64 a0_3, .int .i64 a0_4] 38 (0, 0)) (by (with_reducible repeat (first | refine aN ?_ _ | refine aQ ?_ | refine aM ?_ _)); exact BK391.out) hb); have n1_ := aA.mk (aU (by repeat (first | (with_reducible first | exact HB.out | apply aH | apply aC | apply aG | refine aJ ?_ GE391.out) | exact HB.out)) hb); have n2_ := aA.mk (hbox); have n3_ := aA.mk ((by rw [hg]; exact (aT (by repeat (first | (with_reducible first | exact HB.out | apply aH | apply aC | apply aG | refine aJ ?_ GE391.out) | exact HB.out))) : w.heap.size ≤ gb392)); have n4_ := aA.mk ((by rw [hg]; exact (aT (by repeat (first | (with_reducible first | exact HB.out | apply aH | apply aC | apply aG | refine aJ ?_ GE391.out) | exact HB.out))) : w.heap.size ≤ gb392)); have n5_ := aA.mk ((by rw [hg]; exact Nat.ne_of_lt (bF (g := gb391) (o := .cells #[.int .i64 a0_0, .int .i64 a0_1, .int .i64 a0_2, .int .i64 a0_3, .int .i64 a0_4] 38 (0, 0)) (by (with_reducible repeat (first | refine aN ?_ _ | refine aQ ?_ | refine aM ?_ _)); exact BK391.out)) : gb391 ≠ gb392)); have n6_ := aA.mk ((by rw [hg]; exact Nat.ne_of_gt (bF (g := gb391) (o := .cells #[.int .i64 a0_0, .int .i64 a0_1, .int .i64 a0_2, .int .i64 a0_3, .int .i64 a0_4] 38 (0, 0)) (by (with_reducible repeat (first | refine aN ?_ _ | refine aQ ?_ | refine aM ?_ _)); exact BK391.out)) : gb392 ≠ gb391)); clear BK391; clear HB; have BK391 := n0_; have HB := n1_; have BK392 := n2_; have GW392 := n3_; have GE392 := n4_; have NB391_392 := n5_; have NB392_391 := n6_; clear n0_ n1_ n2_ n3_ n4_ n5_ n6_; clear hb hbox hg; have hnb35 := NB391_392.out; have hnc35 := NB392_391.out; have hcz36_0 : w34.cell? ⟨gb391, 0, none⟩ = some (.int .i64 a0_0) := (aE BK391.out 0).trans rfl; have hcz36_1 : w34.cell? ⟨gb391, 1, none⟩ = some (.int .i64 a0_1) := (aE BK391.out 1).trans rfl; have hcz36_2 : w34.cell? ⟨gb391, 2, none⟩ = some (.int .i64 a0_2) := (aE BK391.out 2).trans rfl; have hcz36_3 : w34.cell? ⟨gb391, 3, none⟩ = some (.int .i64 a0_3) := (aE BK391.out 3).trans rfl; have hcz36_4 : w34.cell? ⟨gb391, 4, none⟩ = some (.int .i64 a0_4) := (aE BK391.out 4).trans rfl; have hfz36_0 := aD BK391.out 0; have hfz36_1 := aD BK391.out 1; have hfz36_2 := aD BK391.out 2; have hfz36_3 := aD BK391.out 3; have hfz36_4 := aD BK391.out 4; have hcz37_0 : w34.cell? ⟨gb392, 0, none⟩ = some (.int .i64 a1_0) := (aE BK392.out 0).trans rfl; have hcz37_1 : w34.cell? ⟨gb392, 1, none⟩ = some (.int .i64 a1_1) := (aE BK392.out 1).trans rfl; have hcz37_2 : w34.cell? ⟨gb392, 2, none⟩ = some (.int .i64 a1_2) := (aE BK392.out 2).trans rfl; have hcz37_3 : w34.cell? ⟨gb392, 3, none⟩ = some (.int .i64 a1_3) := (aE BK392.out 3).trans rfl; have hcz37_4 : w34.cell? ⟨gb392, 4, none⟩ = some (.int .i64 a1_4) := (aE BK392.out 4).trans rfl; have hfz37_0 := aD BK392.out 0; have hfz37_1 := aD BK392.out 1; have hfz37_2 := aD BK392.out 2; have hfz37_3 := aD BK392.out 3; have hfz37_4 := aD BK392.out 4))
  go_ret
  exact ⟨by first | rfl | (simp [errW_none, errW_some] <;> rfl) | (simp [*, errW_none, errW_some] <;> rfl), by repeat (first | (with_reducible first | exact HB.out | apply aH | apply aC | apply aG | refine aJ ?_ GE391.out | refine aJ ?_ GE392.out) | exact HB.out)⟩
end Go.Proofs.Ytamjbjkbineafaa.PFnExactTreePack

namespace Go.Proofs.Ytamjbjkbineafaa.PFnExactTreePack
open Go.RowKit Go.Proofs.YtamjbjkbineafaaW.PrintWords Go.Proofs.YtamjbjkbineafaaW.PrintLast Go.Proofs.YtamjbjkbineafaaW.PrintMore
attribute [local go_sem] max2_int min2_int max_two min_two max_three min_three max_four min_four   -- for this text's walks alone
set_option linter.unusedVariables false
set_option linter.unusedSimpArgs false
def laws_eqKeyS.l0 : Nat → List (S38) → List (S38) → Int → Option (Bool)
 | 0, _, _, _ => none
 | k + 1, x0, x1, x5 => if x5 < (x0.length : Int) then (if 0 ≤ x5 then (if x5 < (x1.length : Int) then ((laws_eqKey.f ((rd_T38 x0 x5).f0) ((rd_T38 x0 x5).f1) ((rd_T38 x0 x5).f2) ((rd_T38 x0 x5).f3) ((rd_T38 x0 x5).f4) ((rd_T38 x1 x5).f0) ((rd_T38 x1 x5).f1) ((rd_T38 x1 x5).f2) ((rd_T38 x1 x5).f3) ((rd_T38 x1 x5).f4)).bind fun t395 => (if t395 = true then (laws_eqKeyS.l0 k x0 x1 (wrap64 (x5 + 1))) else (some false))) else (none)) else (none)) else (some true)
def laws_eqKeyS.f (k : Nat) (l0 : List (S38)) (l1 : List (S38)) : Option (Bool) := if (l0.length : Int) = (l1.length : Int) then (laws_eqKeyS.l0 k l0 l1 0) else (some false)
def laws_eqKeyS.T6 : Bool × List (List Nat × List Nat) := (true, [([], []), ([], []), ([0, 1], [0, 1]), ([2], [2]), ([], []), ([], []), ([4, 5], [4, 5]), ([6], [6]), ([3, 7], [3, 7]), ([8], [8])])
def laws_eqKeyS.B6 : List Nat := [0, 0, 3, 7, 0, 0, 48, 112, 255, 511]
theorem laws_eqKeyS.tab6 : rtab .any (opsOf Try.f105 6) = laws_eqKeyS.T6 := by kernel_rfl
theorem laws_eqKeyS.bits6 : waitsOk laws_eqKeyS.T6.2 laws_eqKeyS.B6 = true := by kernel_rfl
set_option maxHeartbeats 8000000 in
set_option maxRecDepth 100000 in
theorem laws_eqKeyS.calls (k : Nat) (A0 : Option Addr) (c0 : Nat) (l0 : List (S38)) (A1 : Option Addr) (c1 : Nat) (l1 : List (S38)) (r : Bool) (w : World) (hr0 : Kd.C k38 w A0 l0.length l0) (hc0 : l0.length ≤ c0) (hr1 : Kd.C k38 w A1 l1.length l1) (hc1 : l1.length ≤ c1) (h : laws_eqKeyS.f k l0 l1 = some r) :
  Calls Try.prog 105 #[.slice A0 l0.length c0, .slice A1 l1.length c1] w fun e w' => e = .returned (.bool r) ∧ Below w.heap.size w w' := by
 have hu38 := Try.underlying38
 have HR0 := aA.mk hr0
 have HC0 := aA.mk hc0
 clear hr0 hc0
 have HR1 := aA.mk hr1
 have HC1 := aA.mk hc1
 clear hr1 hc1
 have HB := aA.mk (Below.refl w.heap.size w)
 have H : (if (l0.length : Int) = (l1.length : Int) then (laws_eqKeyS.l0 k l0 l1 0) else (some false)) = some r := h
 clear h
 by_cases c3 : (l0.length : Int) = (l1.length : Int)
 ·rw [if_pos c3] at H
  have c3b0 : ((l0.length : Int) == (l1.length : Int)) = true := beq_iff_eq.mpr c3
  have c3b1 : ((l0.length : Int) != (l1.length : Int)) = false := bne_eq_false_iff_eq.mpr c3
  have c3b2 : (l0.length == l1.length) = true := by first | simpa using c3 | (simp at c3 ⊢; omega)
  clear c3
  have H' := aA.mk H
  clear H
  go_enter Try.func105, Try.ntmps105
  go_wp2
  go_loopg [5] k (fun kq v5 w' => ∃ (x5_1 : Int), v5 = .int .i64 x5_1 ∧ aA (laws_eqKeyS.l0 kq l0 l1 x5_1 = some r) ∧ aA (kq ≤ k) ∧ aA (Below w.heap.size w w'))
  case atStart => exact ⟨(0), (by first | rfl | (simp; done) | (simp [*]; done)), H', ⟨Nat.le_refl _⟩, ⟨by repeat (first | (with_reducible first | exact HB.out | apply aH | apply aC | apply aG) | exact HB.out)⟩⟩
  case round =>
   clear H'
   try clear c1
   try clear p2
   try clear c3
   try clear c3b0
   try clear c3b1
   try clear c3b2
   obtain ⟨x5_1, rfl, HA, HK1, HB⟩ := hrel
   cases gk with
   | zero => exact absurd HA.out (by simp [laws_eqKeyS.l0])
   | succ k1 =>
    have H := HA.out
    clear HA
    simp only [laws_eqKeyS.l0] at H
    by_cases c4 : x5_1 < (l0.length : Int)
    ·rw [if_pos c4] at H
     have c4b0 : decide (x5_1 < (l0.length : Int)) = true := decide_eq_true c4
     clear c4
     by_cases c5 : 0 ≤ x5_1
     ·rw [if_pos c5] at H
      have c5b0 : decide (0 ≤ x5_1) = true := decide_eq_true c5
      clear c5
      by_cases c6 : x5_1 < (l1.length : Int)
      ·rw [if_pos c6] at H
       have c6b0 : decide (x5_1 < (l1.length : Int)) = true := decide_eq_true c6
       clear c6
       replace H := lF H
       obtain ⟨t395, A70, H⟩ := H
       replace H : (if t395 = true then (laws_eqKeyS.l0 k1 l0 l1 (wrap64 (x5_1 + 1))) else (some false)) = some r := H
       have A7 := aA.mk A70
       clear A70
       by_cases c8 : t395 = true
       ·subst c8
        have H1 : (laws_eqKeyS.l0 k1 l0 l1 (wrap64 (x5_1 + 1))) = some r := by rw [if_pos rfl] at H; exact H
        clear H
        have H := H1
        clear H1
        have H' := aA.mk H
        clear H
        try go_wp2
        have n0_ := aA.mk (aG HB.out)
        clear HB
        have HB := n0_
        clear n0_
        have p393 : 0 ≤ (x5_1 : Int) := lE (by first | (with_reducible assumption) | assumption)
        have q393 : x5_1 < (l0.length : Int) := lE (by first | (with_reducible assumption) | assumption)
        obtain ⟨ad393, e393, hx393_0, hx393_1, hx393_2, hx393_3, hx393_4⟩ := at_T38 HR0.out x5_1 p393 q393
        have hw393_4 := hx393_4
        have hw393_3 := hx393_3
        have hw393_2 := hx393_2
        have hw393_1 := hx393_1
        have hw393_0 := hx393_0
        cases e393
        replace hx393_0 := (HB.out.cell (lD w _ hx393_0)).trans hx393_0
        replace hx393_1 := (HB.out.cell (lD w _ hx393_1)).trans hx393_1
        replace hx393_2 := (HB.out.cell (lD w _ hx393_2)).trans hx393_2
        replace hx393_3 := (HB.out.cell (lD w _ hx393_3)).trans hx393_3
        replace hx393_4 := (HB.out.cell (lD w _ hx393_4)).trans hx393_4
        replace p393 := eq_true p393
        replace q393 := eq_true q393
        have p394 : 0 ≤ (x5_1 : Int) := lE (by first | (with_reducible assumption) | assumption)
        have q394 : x5_1 < (l1.length : Int) := lE (by first | (with_reducible assumption) | assumption)
        obtain ⟨ad394, e394, hx394_0, hx394_1, hx394_2, hx394_3, hx394_4⟩ := at_T38 HR1.out x5_1 p394 q394
        have hw394_4 := hx394_4
        have hw394_3 := hx394_3
        have hw394_2 := hx394_2
        have hw394_1 := hx394_1
        have hw394_0 := hx394_0
        cases e394
        replace hx394_0 := (HB.out.cell (lD w _ hx394_0)).trans hx394_0
        replace hx394_1 := (HB.out.cell (lD w _ hx394_1)).trans hx394_1
        replace hx394_2 := (HB.out.cell (lD w _ hx394_2)).trans hx394_2
        replace hx394_3 := (HB.out.cell (lD w _ hx394_3)).trans hx394_3
        replace hx394_4 := (HB.out.cell (lD w _ hx394_4)).trans hx394_4
        replace p394 := eq_true p394
        replace q394 := eq_true q394
        refine start_ (n := 10) (S := fun w' => w'.cell? (ad393.add ((x5_1).toNat * 5)) = some (.int .i64 ((rd_T38 l0 x5_1).f0)) ∧ w'.cell? ⟨(ad393.add ((x5_1).toNat * 5)).block, (ad393.add ((x5_1).toNat * 5)).off + 1, none⟩ = some (.int .i64 ((rd_T38 l0 x5_1).f1)) ∧ w'.cell? ⟨(ad393.add ((x5_1).toNat * 5)).block, (ad393.add ((x5_1).toNat * 5)).off + 2, none⟩ = some (.int .i64 ((rd_T38 l0 x5_1).f2)) ∧ w'.cell? ⟨(ad393.add ((x5_1).toNat * 5)).block, (ad393.add ((x5_1).toNat * 5)).off + 3, none⟩ = some (.int .i64 ((rd_T38 l0 x5_1).f3)) ∧ w'.cell? ⟨(ad393.add ((x5_1).toNat * 5)).block, (ad393.add ((x5_1).toNat * 5)).off + 4, none⟩ = some (.int .i64 ((rd_T38 l0 x5_1).f4)) ∧ w'.cell? (ad394.add ((x5_1).toNat * 5)) = some (.int .i64 ((rd_T38 l1 x5_1).f0)) ∧ w'.cell? ⟨(ad394.add ((x5_1).toNat * 5)).block, (ad394.add ((x5_1).toNat * 5)).off + 1, none⟩ = some (.int .i64 ((rd_T38 l1 x5_1).f1)) ∧ w'.cell? ⟨(ad394.add ((x5_1).toNat * 5)).block, (ad394.add ((x5_1).toNat * 5)).off + 2, none⟩ = some (.int .i64 ((rd_T38 l1 x5_1).f2)) ∧ w'.cell? ⟨(ad394.add ((x5_1).toNat * 5)).block, (ad394.add ((x5_1).toNat * 5)).off + 3, none⟩ = some (.int .i64 ((rd_T38 l1 x5_1).f3)) ∧ w'.cell? ⟨(ad394.add ((x5_1).toNat * 5)).block, (ad394.add ((x5_1).toNat * 5)).off + 4, none⟩ = some (.int .i64 ((rd_T38 l1 x5_1).f4))) (ds := []) #[false, false, false, false, false, false, false, false, false, false] (by kernel_rfl) rfl rfl ⟨((HB.out.cell (lD w _ hw393_0)).trans hw393_0), ((HB.out.cell (lD w _ hw393_1)).trans hw393_1), ((HB.out.cell (lD w _ hw393_2)).trans hw393_2), ((HB.out.cell (lD w _ hw393_3)).trans hw393_3), ((HB.out.cell (lD w _ hw393_4)).trans hw393_4), ((HB.out.cell (lD w _ hw394_0)).trans hw394_0), ((HB.out.cell (lD w _ hw394_1)).trans hw394_1), ((HB.out.cell (lD w _ hw394_2)).trans hw394_2), ((HB.out.cell (lD w _ hw394_3)).trans hw394_3), ((HB.out.cell (lD w _ hw394_4)).trans hw394_4)⟩ (fun hHeld => ?_); refine with_tabW laws_eqKeyS.tab6 laws_eqKeyS.bits6 (fun HT_ HW_ => ?_)
        generalize wr.drew = w9 at HB hx393_0 hx393_1 hx393_2 hx393_3 hx393_4 hx394_0 hx394_1 hx394_2 hx394_3 hx394_4 hHeld ⊢
        refine bL (i := 0) (N := some 17) (v := ?_) (a' := ?_) #[true, false, false, false, false, false, false, false, false, false] rfl rfl (bQ HT_.out (by kernel_rfl)) (fun _ _ _ h => h) (Or.inl ⟨by rfl, ?_⟩) ?_ ?_
        rotate_left
        ·intro w'
         go_simp
         with_reducible rfl
        rotate_left
        ·simp only [Act.put, lA, lB, lC, bD, bC]
         rfl
        refine bL (i := 1) (N := some 18) (v := ?_) (a' := ?_) #[true, true, false, false, false, false, false, false, false, false] rfl rfl (bQ HT_.out (by kernel_rfl)) (fun _ _ _ h => h) (Or.inl ⟨by rfl, ?_⟩) ?_ ?_
        rotate_left
        ·intro w'
         go_simp
         with_reducible rfl
        rotate_left
        ·simp only [Act.put, lA, lB, lC, bD, bC]
         rfl
        refine bL (i := 2) (N := some 19) (v := ?_) (a' := ?_) #[true, true, true, false, false, false, false, false, false, false] rfl rfl (bQ HT_.out (by kernel_rfl)) (fun _ _ _ h => h) (Or.inl ⟨by rfl, ?_⟩) ?_ ?_
        rotate_left
        ·intro w'
         go_simp
         with_reducible rfl
        rotate_left
        ·simp only [Act.put, lA, lB, lC, bD, bC]
         rfl
        refine bL (i := 4) (N := some 21) (v := ?_) (a' := ?_) #[true, true, true, false, true, false, false, false, false, false] rfl rfl (bQ HT_.out (by kernel_rfl)) (fun _ _ _ h => h) (Or.inl ⟨by rfl, ?_⟩) ?_ ?_
        rotate_left
        ·intro w'
         go_simp
         with_reducible rfl
        rotate_left
        ·simp only [Act.put, lA, lB, lC, bD, bC]
         rfl
        refine bL (i := 5) (N := some 22) (v := ?_) (a' := ?_) #[true, true, true, false, true, true, false, false, false, false] rfl rfl (bQ HT_.out (by kernel_rfl)) (fun _ _ _ h => h) (Or.inl ⟨by rfl, ?_⟩) ?_ ?_
        rotate_left
        ·intro w'
         go_simp
         with_reducible rfl
        rotate_left
        ·simp only [Act.put, lA, lB, lC, bD, bC]
         rfl
        refine bL (i := 6) (N := some 23) (v := ?_) (a' := ?_) #[true, true, true, false, true, true, true, false, false, false] rfl rfl (bQ HT_.out (by kernel_rfl)) (fun _ _ _ h => h) (Or.inl ⟨by rfl, ?_⟩) ?_ ?_
        rotate_left
        ·intro w'
         go_simp
         with_reducible rfl
        rotate_left
        ·simp only [Act.put, lA, lB, lC, bD, bC]
         rfl
        refine take_ (i := 3) (N := some 20) (v := ?_) (a' := ?_) #[true, true, true, true, true, true, true, false, false, false] rfl rfl (take_ofW HT_.out HW_.out (by kernel_rfl)) (fun _ _ _ h => h) (Or.inl ⟨by rfl, ?_⟩) hHeld ?_ ?_
        rotate_left
        ·rintro w' ⟨s0, s1, s2, s3, s4, s5, s6, s7, s8, s9⟩
         go_simp
         with_reducible rfl
        rotate_left
        ·simp only [Act.put, lA, lB, lC, bD, bC]
         rfl
        refine take_ (i := 7) (N := some 24) (v := ?_) (a' := ?_) #[true, true, true, true, true, true, true, true, false, false] rfl rfl (take_ofW HT_.out HW_.out (by kernel_rfl)) (fun _ _ _ h => h) (Or.inl ⟨by rfl, ?_⟩) hHeld ?_ ?_
        rotate_left
        ·rintro w' ⟨s0, s1, s2, s3, s4, s5, s6, s7, s8, s9⟩
         go_simp
         with_reducible rfl
        rotate_left
        ·simp only [Act.put, lA, lB, lC, bD, bC]
         rfl
        refine one_ (i := 8) (N := some 25) #[true, true, true, true, true, true, true, true, true, false] rfl rfl (one_of HT_.out (by kernel_rfl)) (by decide) (fun K hK => ?_)
        refine goes_ Try.func107 (by kernel_rfl) rfl #[.agg #[.int .i64 ((rd_T38 l0 x5_1).f0), .int .i64 ((rd_T38 l0 x5_1).f1), .int .i64 ((rd_T38 l0 x5_1).f2), .int .i64 ((rd_T38 l0 x5_1).f3), .int .i64 ((rd_T38 l0 x5_1).f4)], .agg #[.int .i64 ((rd_T38 l1 x5_1).f0), .int .i64 ((rd_T38 l1 x5_1).f1), .int .i64 ((rd_T38 l1 x5_1).f2), .int .i64 ((rd_T38 l1 x5_1).f3), .int .i64 ((rd_T38 l1 x5_1).f4)]] (by rfl) rfl rfl (by (try simp only [List.map_toArray, List.map_cons, List.map_nil]); first | done | rfl | (simp only [List.length_drop, List.length_take]; rfl)) ?_
        with_reducible refine (laws_eqKey.calls ((rd_T38 l0 x5_1).f0) ((rd_T38 l0 x5_1).f1) ((rd_T38 l0 x5_1).f2) ((rd_T38 l0 x5_1).f3) ((rd_T38 l0 x5_1).f4) ((rd_T38 l1 x5_1).f0) ((rd_T38 l1 x5_1).f1) ((rd_T38 l1 x5_1).f2) ((rd_T38 l1 x5_1).f3) ((rd_T38 l1 x5_1).f4) true _ A7.out).mono ?_
        rintro e w10 ⟨rfl, hb⟩
        refine ⟨_, rfl, ?_⟩
        have n0_ := aA.mk (aU (by repeat (first | (with_reducible first | exact HB.out | apply aH | apply aC | apply aG) | exact HB.out)) hb)
        clear HB
        have HB := n0_
        clear n0_
        (try clear hb)
        (try clear hb2)
        (try clear hk)
        (try clear hi)
        refine hK.out _ _ ⟨((HB.out.cell (lD w _ hw393_0)).trans hw393_0), ((HB.out.cell (lD w _ hw393_1)).trans hw393_1), ((HB.out.cell (lD w _ hw393_2)).trans hw393_2), ((HB.out.cell (lD w _ hw393_3)).trans hw393_3), ((HB.out.cell (lD w _ hw393_4)).trans hw393_4), ((HB.out.cell (lD w _ hw394_0)).trans hw394_0), ((HB.out.cell (lD w _ hw394_1)).trans hw394_1), ((HB.out.cell (lD w _ hw394_2)).trans hw394_2), ((HB.out.cell (lD w _ hw394_3)).trans hw394_3), ((HB.out.cell (lD w _ hw394_4)).trans hw394_4)⟩ (fun hHeld => ?_)
        clear hK K
        refine norm_ (a' := ?_) ?_ ?_
        rotate_left
        ·show Act.put _ (some 25) _ = _
         simp only [Act.put, lA, lB, lC, bD, bC]
         rfl
        refine bL (i := 9) (N := some 26) (v := ?_) (a' := ?_) #[true, true, true, true, true, true, true, true, true, true] rfl rfl (bQ HT_.out (by kernel_rfl)) (fun _ _ _ h => h) (Or.inl ⟨by rfl, ?_⟩) ?_ ?_
        rotate_left
        ·intro w'
         go_simp
         with_reducible rfl
        rotate_left
        ·simp only [Act.put, lA, lB, lC, bD, bC]
         rfl
        refine done_ (done_of HT_.out (by kernel_rfl)) ?_
        try go_wp2
        go_roundg k1
        case measure => have := HK1.out; omega
        case rel => exact ⟨(wrap64 (x5_1 + 1)), (by first | rfl | (simp; done) | (simp [*]; done)), H', ⟨by have := HK1.out; omega⟩, ⟨by repeat (first | (with_reducible first | exact HB.out | apply aH | apply aC | apply aG) | exact HB.out)⟩⟩
       ·replace c8 := Bool.eq_false_iff.mpr c8
        subst c8
        have H1 : (some false) = some r := by rw [if_neg (show ¬ (false = true) by decide)] at H; exact H
        clear H
        have H := H1
        clear H1
        obtain rfl := Option.some.inj H
        try go_wp2
        have n0_ := aA.mk (aG HB.out)
        clear HB
        have HB := n0_
        clear n0_
        have p393 : 0 ≤ (x5_1 : Int) := lE (by first | (with_reducible assumption) | assumption)
        have q393 : x5_1 < (l0.length : Int) := lE (by first | (with_reducible assumption) | assumption)
        obtain ⟨ad393, e393, hx393_0, hx393_1, hx393_2, hx393_3, hx393_4⟩ := at_T38 HR0.out x5_1 p393 q393
        have hw393_4 := hx393_4
        have hw393_3 := hx393_3
        have hw393_2 := hx393_2
        have hw393_1 := hx393_1
        have hw393_0 := hx393_0
        cases e393
        replace hx393_0 := (HB.out.cell (lD w _ hx393_0)).trans hx393_0
        replace hx393_1 := (HB.out.cell (lD w _ hx393_1)).trans hx393_1
        replace hx393_2 := (HB.out.cell (lD w _ hx393_2)).trans hx393_2
        replace hx393_3 := (HB.out.cell (lD w _ hx393_3)).trans hx393_3
        replace hx393_4 := (HB.out.cell (lD w _ hx393_4)).trans hx393_4
        replace p393 := eq_true p393
        replace q393 := eq_true q393
        have p394 : 0 ≤ (x5_1 : Int) := lE (by first | (with_reducible assumption) | assumption)
        have q394 : x5_1 < (l1.length : Int) := lE (by first | (with_reducible assumption) | assumption)
        obtain ⟨ad394, e394, hx394_0, hx394_1, hx394_2, hx394_3, hx394_4⟩ := at_T38 HR1.out x5_1 p394 q394
        have hw394_4 := hx394_4
        have hw394_3 := hx394_3
        have hw394_2 := hx394_2
        have hw394_1 := hx394_1
        have hw394_0 := hx394_0
        cases e394
        replace hx394_0 := (HB.out.cell (lD w _ hx394_0)).trans hx394_0
        replace hx394_1 := (HB.out.cell (lD w _ hx394_1)).trans hx394_1
        replace hx394_2 := (HB.out.cell (lD w _ hx394_2)).trans hx394_2
        replace hx394_3 := (HB.out.cell (lD w _ hx394_3)).trans hx394_3
        replace hx394_4 := (HB.out.cell (lD w _ hx394_4)).trans hx394_4
        replace p394 := eq_true p394
        replace q394 := eq_true q394
        refine start_ (n := 10) (S := fun w' => w'.cell? (ad393.add ((x5_1).toNat * 5)) = some (.int .i64 ((rd_T38 l0 x5_1).f0)) ∧ w'.cell? ⟨(ad393.add ((x5_1).toNat * 5)).block, (ad393.add ((x5_1).toNat * 5)).off + 1, none⟩ = some (.int .i64 ((rd_T38 l0 x5_1).f1)) ∧ w'.cell? ⟨(ad393.add ((x5_1).toNat * 5)).block, (ad393.add ((x5_1).toNat * 5)).off + 2, none⟩ = some (.int .i64 ((rd_T38 l0 x5_1).f2)) ∧ w'.cell? ⟨(ad393.add ((x5_1).toNat * 5)).block, (ad393.add ((x5_1).toNat * 5)).off + 3, none⟩ = some (.int .i64 ((rd_T38 l0 x5_1).f3)) ∧ w'.cell? ⟨(ad393.add ((x5_1).toNat * 5)).block, (ad393.add ((x5_1).toNat * 5)).off + 4, none⟩ = some (.int .i64 ((rd_T38 l0 x5_1).f4)) ∧ w'.cell? (ad394.add ((x5_1).toNat * 5)) = some (.int .i64 ((rd_T38 l1 x5_1).f0)) ∧ w'.cell? ⟨(ad394.add ((x5_1).toNat * 5)).block, (ad394.add ((x5_1).toNat * 5)).off + 1, none⟩ = some (.int .i64 ((rd_T38 l1 x5_1).f1)) ∧ w'.cell? ⟨(ad394.add ((x5_1).toNat * 5)).block, (ad394.add ((x5_1).toNat * 5)).off + 2, none⟩ = some (.int .i64 ((rd_T38 l1 x5_1).f2)) ∧ w'.cell? ⟨(ad394.add ((x5_1).toNat * 5)).block, (ad394.add ((x5_1).toNat * 5)).off + 3, none⟩ = some (.int .i64 ((rd_T38 l1 x5_1).f3)) ∧ w'.cell? ⟨(ad394.add ((x5_1).toNat * 5)).block, (ad394.add ((x5_1).toNat * 5)).off + 4, none⟩ = some (.int .i64 ((rd_T38 l1 x5_1).f4))) (ds := []) #[false, false, false, false, false, false, false, false, false, false] (by kernel_rfl) rfl rfl ⟨((HB.out.cell (lD w _ hw393_0)).trans hw393_0), ((HB.out.cell (lD w _ hw393_1)).trans hw393_1), ((HB.out.cell (lD w _ hw393_2)).trans hw393_2), ((HB.out.cell (lD w _ hw393_3)).trans hw393_3), ((HB.out.cell (lD w _ hw393_4)).trans hw393_4), ((HB.out.cell (lD w _ hw394_0)).trans hw394_0), ((HB.out.cell (lD w _ hw394_1)).trans hw394_1), ((HB.out.cell (lD w _ hw394_2)).trans hw394_2), ((HB.out.cell (lD w _ hw394_3)).trans hw394_3), ((HB.out.cell (lD w _ hw394_4)).trans hw394_4)⟩ (fun hHeld => ?_); refine with_tabW laws_eqKeyS.tab6 laws_eqKeyS.bits6 (fun HT_ HW_ => ?_)
        generalize wr.drew = w11 at HB hx393_0 hx393_1 hx393_2 hx393_3 hx393_4 hx394_0 hx394_1 hx394_2 hx394_3 hx394_4 hHeld ⊢
        refine bL (i := 0) (N := some 17) (v := ?_) (a' := ?_) #[true, false, false, false, false, false, false, false, false, false] rfl rfl (bQ HT_.out (by kernel_rfl)) (fun _ _ _ h => h) (Or.inl ⟨by rfl, ?_⟩) ?_ ?_
        rotate_left
        ·intro w'
         go_simp
         with_reducible rfl
        rotate_left
        ·simp only [Act.put, lA, lB, lC, bD, bC]
         rfl
        refine bL (i := 1) (N := some 18) (v := ?_) (a' := ?_) #[true, true, false, false, false, false, false, false, false, false] rfl rfl (bQ HT_.out (by kernel_rfl)) (fun _ _ _ h => h) (Or.inl ⟨by rfl, ?_⟩) ?_ ?_
        rotate_left
        ·intro w'
         go_simp
         with_reducible rfl
        rotate_left
        ·simp only [Act.put, lA, lB, lC, bD, bC]
         rfl
        refine bL (i := 2) (N := some 19) (v := ?_) (a' := ?_) #[true, true, true, false, false, false, false, false, false, false] rfl rfl (bQ HT_.out (by kernel_rfl)) (fun _ _ _ h => h) (Or.inl ⟨by rfl, ?_⟩) ?_ ?_
        rotate_left
        ·intro w'
         go_simp
         with_reducible rfl
        rotate_left
        ·simp only [Act.put, lA, lB, lC, bD, bC]
         rfl
        refine bL (i := 4) (N := some 21) (v := ?_) (a' := ?_) #[true, true, true, false, true, false, false, false, false, false] rfl rfl (bQ HT_.out (by kernel_rfl)) (fun _ _ _ h => h) (Or.inl ⟨by rfl, ?_⟩) ?_ ?_
        rotate_left
        ·intro w'
         go_simp
         with_reducible rfl
        rotate_left
        ·simp only [Act.put, lA, lB, lC, bD, bC]
         rfl
        refine bL (i := 5) (N := some 22) (v := ?_) (a' := ?_) #[true, true, true, false, true, true, false, false, false, false] rfl rfl (bQ HT_.out (by kernel_rfl)) (fun _ _ _ h => h) (Or.inl ⟨by rfl, ?_⟩) ?_ ?_
        rotate_left
        ·intro w'
         go_simp
         with_reducible rfl
        rotate_left
        ·simp only [Act.put, lA, lB, lC, bD, bC]
         rfl
        refine bL (i := 6) (N := some 23) (v := ?_) (a' := ?_) #[true, true, true, false, true, true, true, false, false, false] rfl rfl (bQ HT_.out (by kernel_rfl)) (fun _ _ _ h => h) (Or.inl ⟨by rfl, ?_⟩) ?_ ?_
        rotate_left
        ·intro w'
         go_simp
         with_reducible rfl
        rotate_left
        ·simp only [Act.put, lA, lB, lC, bD, bC]
         rfl
        refine take_ (i := 3) (N := some 20) (v := ?_) (a' := ?_) #[true, true, true, true, true, true, true, false, false, false] rfl rfl (take_ofW HT_.out HW_.out (by kernel_rfl)) (fun _ _ _ h => h) (Or.inl ⟨by rfl, ?_⟩) hHeld ?_ ?_
        rotate_left
        ·rintro w' ⟨s0, s1, s2, s3, s4, s5, s6, s7, s8, s9⟩
         go_simp
         with_reducible rfl
        rotate_left
        ·simp only [Act.put, lA, lB, lC, bD, bC]
         rfl
        refine take_ (i := 7) (N := some 24) (v := ?_) (a' := ?_) #[true, true, true, true, true, true, true, true, false, false] rfl rfl (take_ofW HT_.out HW_.out (by kernel_rfl)) (fun _ _ _ h => h) (Or.inl ⟨by rfl, ?_⟩) hHeld ?_ ?_
        rotate_left
        ·rintro w' ⟨s0, s1, s2, s3, s4, s5, s6, s7, s8, s9⟩
         go_simp
         with_reducible rfl
        rotate_left
        ·simp only [Act.put, lA, lB, lC, bD, bC]
         rfl
        refine one_ (i := 8) (N := some 25) #[true, true, true, true, true, true, true, true, true, false] rfl rfl (one_of HT_.out (by kernel_rfl)) (by decide) (fun K hK => ?_)
        refine goes_ Try.func107 (by kernel_rfl) rfl #[.agg #[.int .i64 ((rd_T38 l0 x5_1).f0), .int .i64 ((rd_T38 l0 x5_1).f1), .int .i64 ((rd_T38 l0 x5_1).f2), .int .i64 ((rd_T38 l0 x5_1).f3), .int .i64 ((rd_T38 l0 x5_1).f4)], .agg #[.int .i64 ((rd_T38 l1 x5_1).f0), .int .i64 ((rd_T38 l1 x5_1).f1), .int .i64 ((rd_T38 l1 x5_1).f2), .int .i64 ((rd_T38 l1 x5_1).f3), .int .i64 ((rd_T38 l1 x5_1).f4)]] (by rfl) rfl rfl (by (try simp only [List.map_toArray, List.map_cons, List.map_nil]); first | done | rfl | (simp only [List.length_drop, List.length_take]; rfl)) ?_
        with_reducible refine (laws_eqKey.calls ((rd_T38 l0 x5_1).f0) ((rd_T38 l0 x5_1).f1) ((rd_T38 l0 x5_1).f2) ((rd_T38 l0 x5_1).f3) ((rd_T38 l0 x5_1).f4) ((rd_T38 l1 x5_1).f0) ((rd_T38 l1 x5_1).f1) ((rd_T38 l1 x5_1).f2) ((rd_T38 l1 x5_1).f3) ((rd_T38 l1 x5_1).f4) false _ A7.out).mono ?_
        rintro e w12 ⟨rfl, hb⟩
        refine ⟨_, rfl, ?_⟩
        have n0_ := aA.mk (aU (by repeat (first | (with_reducible first | exact HB.out | apply aH | apply aC | apply aG) | exact HB.out)) hb)
        clear HB
        have HB := n0_
        clear n0_
        (try clear hb)
        (try clear hb2)
        (try clear hk)
        (try clear hi)
        refine hK.out _ _ ⟨((HB.out.cell (lD w _ hw393_0)).trans hw393_0), ((HB.out.cell (lD w _ hw393_1)).trans hw393_1), ((HB.out.cell (lD w _ hw393_2)).trans hw393_2), ((HB.out.cell (lD w _ hw393_3)).trans hw393_3), ((HB.out.cell (lD w _ hw393_4)).trans hw393_4), ((HB.out.cell (lD w _ hw394_0)).trans hw394_0), ((HB.out.cell (lD w _ hw394_1)).trans hw394_1), ((HB.out.cell (lD w _ hw394_2)).trans hw394_2), ((HB.out.cell (lD w _ hw394_3)).trans hw394_3), ((HB.out.cell (lD w _ hw394_4)).trans hw394_4)⟩ (fun hHeld => ?_)
        clear hK K
        refine norm_ (a' := ?_) ?_ ?_
        rotate_left
        ·show Act.put _ (some 25) _ = _
         simp only [Act.put, lA, lB, lC, bD, bC]
         rfl
        refine bL (i := 9) (N := some 26) (v := ?_) (a' := ?_) #[true, true, true, true, true, true, true, true, true, true] rfl rfl (bQ HT_.out (by kernel_rfl)) (fun _ _ _ h => h) (Or.inl ⟨by rfl, ?_⟩) ?_ ?_
        rotate_left
        ·intro w'
         go_simp
         with_reducible rfl
        rotate_left
        ·simp only [Act.put, lA, lB, lC, bD, bC]
         rfl
        refine done_ (done_of HT_.out (by kernel_rfl)) ?_
        try go_wp2
        go_ret
        exact ⟨by first | rfl | (simp [errW_none, errW_some] <;> rfl) | (simp [*, errW_none, errW_some] <;> rfl), by repeat (first | (with_reducible first | exact HB.out | apply aH | apply aC | apply aG) | exact HB.out)⟩
      ·rw [if_neg c6] at H
       exact absurd H (by simp)
     ·rw [if_neg c5] at H
      exact absurd H (by simp)
    ·rw [if_neg c4] at H
     have c4b0 : decide (x5_1 < (l0.length : Int)) = false := decide_eq_false c4
     clear c4
     obtain rfl := Option.some.inj H
     go_wp2
     go_ret
     exact ⟨by first | rfl | (simp [errW_none, errW_some] <;> rfl) | (simp [*, errW_none, errW_some] <;> rfl), by repeat (first | (with_reducible first | exact HB.out | apply aH | apply aC | apply aG) | exact HB.out)⟩
 ·rw [if_neg c3] at H
  have c3b0 : ((l0.length : Int) == (l1.length : Int)) = false := beq_eq_false_iff_ne.mpr c3
  have c3b1 : ((l0.length : Int) != (l1.length : Int)) = true := bne_iff_ne.mpr c3
  have c3b2 : (l0.length == l1.length) = false := by first | simpa using c3 | (simp at c3 ⊢; omega)
  obtain rfl := Option.some.inj H
  go_enter Try.func105, Try.ntmps105
  go_wp2
  go_ret
  exact ⟨by first | rfl | (simp [errW_none, errW_some] <;> rfl) | (simp [*, errW_none, errW_some] <;> rfl), by repeat (first | (with_reducible first | exact HB.out | apply aH | apply aC | apply aG) | exact HB.out)⟩
def laws_eqKeySS.l0 : Nat → List (List (S38)) → List (List (S38)) → Int → Option (Bool)
 | 0, _, _, _ => none
 | k + 1, x0, x1, x5 => if x5 < (x0.length : Int) then (if 0 ≤ x5 then (if x5 < (x1.length : Int) then ((laws_eqKeyS.f k (rd_L6 x0 x5) (rd_L6 x1 x5)).bind fun t398 => (if t398 = true then (laws_eqKeySS.l0 k x0 x1 (wrap64 (x5 + 1))) else (some false))) else (none)) else (none)) else (some true)
def laws_eqKeySS.f (k : Nat) (l0 : List (List (S38))) (l1 : List (List (S38))) : Option (Bool) := if (l0.length : Int) = (l1.length : Int) then (laws_eqKeySS.l0 k l0 l1 0) else (some false)
def laws_eqKeySS.T6 : Bool × List (List Nat × List Nat) := (true, [([], []), ([], []), ([0, 1], [0, 1]), ([2], [2]), ([], []), ([], []), ([4, 5], [4, 5]), ([6], [6]), ([3, 7], [3, 7]), ([8], [8])])
def laws_eqKeySS.B6 : List Nat := [0, 0, 3, 7, 0, 0, 48, 112, 255, 511]
theorem laws_eqKeySS.tab6 : rtab .any (opsOf Try.f94 6) = laws_eqKeySS.T6 := by kernel_rfl
theorem laws_eqKeySS.bits6 : waitsOk laws_eqKeySS.T6.2 laws_eqKeySS.B6 = true := by kernel_rfl
set_option maxHeartbeats 8000000 in
set_option maxRecDepth 100000 in
theorem laws_eqKeySS.calls (k : Nat) (A0 : Option Addr) (c0 : Nat) (l0 : List (List (S38))) (A1 : Option Addr) (c1 : Nat) (l1 : List (List (S38))) (r : Bool) (w : World) (hr0 : Kd.C (Kd.slice 38 k38) w A0 l0.length l0) (hc0 : l0.length ≤ c0) (hr1 : Kd.C (Kd.slice 38 k38) w A1 l1.length l1) (hc1 : l1.length ≤ c1) (h : laws_eqKeySS.f k l0 l1 = some r) :
  Calls Try.prog 94 #[.slice A0 l0.length c0, .slice A1 l1.length c1] w fun e w' => e = .returned (.bool r) ∧ Below w.heap.size w w' := by
 have HR0 := aA.mk hr0
 have HC0 := aA.mk hc0
 clear hr0 hc0
 have HR1 := aA.mk hr1
 have HC1 := aA.mk hc1
 clear hr1 hc1
 have HB := aA.mk (Below.refl w.heap.size w)
 have H : (if (l0.length : Int) = (l1.length : Int) then (laws_eqKeySS.l0 k l0 l1 0) else (some false)) = some r := h
 clear h
 by_cases c3 : (l0.length : Int) = (l1.length : Int)
 ·rw [if_pos c3] at H
  have c3b0 : ((l0.length : Int) == (l1.length : Int)) = true := beq_iff_eq.mpr c3
  have c3b1 : ((l0.length : Int) != (l1.length : Int)) = false := bne_eq_false_iff_eq.mpr c3
  have c3b2 : (l0.length == l1.length) = true := by first | simpa using c3 | (simp at c3 ⊢; omega)
  clear c3
  have H' := aA.mk H
  clear H
  go_enter Try.func94, Try.ntmps94
  go_wp2
  go_loopg [5] k (fun kq v5 w' => ∃ (x5_1 : Int), v5 = .int .i64 x5_1 ∧ aA (laws_eqKeySS.l0 kq l0 l1 x5_1 = some r) ∧ aA (kq ≤ k) ∧ aA (Below w.heap.size w w'))
  case atStart => exact ⟨(0), (by first | rfl | (simp; done) | (simp [*]; done)), H', ⟨Nat.le_refl _⟩, ⟨by repeat (first | (with_reducible first | exact HB.out | apply aH | apply aC | apply aG) | exact HB.out)⟩⟩
  case round =>
   clear H'
   try clear c1
   try clear p2
   try clear c3
   try clear c3b0
   try clear c3b1
   try clear c3b2
   obtain ⟨x5_1, rfl, HA, HK1, HB⟩ := hrel
   cases gk with
   | zero => exact absurd HA.out (by simp [laws_eqKeySS.l0])
   | succ k1 =>
    have H := HA.out
    clear HA
    simp only [laws_eqKeySS.l0] at H
    by_cases c4 : x5_1 < (l0.length : Int)
    ·rw [if_pos c4] at H
     have c4b0 : decide (x5_1 < (l0.length : Int)) = true := decide_eq_true c4
     clear c4
     by_cases c5 : 0 ≤ x5_1
     ·rw [if_pos c5] at H
      have c5b0 : decide (0 ≤ x5_1) = true := decide_eq_true c5
      clear c5
      by_cases c6 : x5_1 < (l1.length : Int)
      ·rw [if_pos c6] at H
       have c6b0 : decide (x5_1 < (l1.length : Int)) = true := decide_eq_true c6
       clear c6
       replace H := lF H
       obtain ⟨t398, A70, H⟩ := H
       replace H : (if t398 = true then (laws_eqKeySS.l0 k1 l0 l1 (wrap64 (x5_1 + 1))) else (some false)) = some r := H
       have A7 := aA.mk A70
       clear A70
       by_cases c8 : t398 = true
       ·subst c8
        have H1 : (laws_eqKeySS.l0 k1 l0 l1 (wrap64 (x5_1 + 1))) = some r := by rw [if_pos rfl] at H; exact H
        clear H
        have H := H1
        clear H1
        have H' := aA.mk H
        clear H
        try go_wp2
        have n0_ := aA.mk (aG HB.out)
        clear HB
        have HB := n0_
        clear n0_
        have p396 : 0 ≤ (x5_1 : Int) := lE (by first | (with_reducible assumption) | assumption)
        have q396 : x5_1 < (l0.length : Int) := lE (by first | (with_reducible assumption) | assumption)
        obtain ⟨ad396, A396_0, c396_0, e396, hx396_0, hl396_0, hi396_0⟩ := at_L6 HR0.out x5_1 p396 q396
        have hw396_0 := hx396_0
        cases e396
        replace hx396_0 := (HB.out.cell (lD w _ hx396_0)).trans hx396_0
        have HR396_0 := aA.mk hi396_0
        have HC396_0 := aA.mk hl396_0
        clear hi396_0 hl396_0
        replace p396 := eq_true p396
        replace q396 := eq_true q396
        have p397 : 0 ≤ (x5_1 : Int) := lE (by first | (with_reducible assumption) | assumption)
        have q397 : x5_1 < (l1.length : Int) := lE (by first | (with_reducible assumption) | assumption)
        obtain ⟨ad397, A397_0, c397_0, e397, hx397_0, hl397_0, hi397_0⟩ := at_L6 HR1.out x5_1 p397 q397
        have hw397_0 := hx397_0
        cases e397
        replace hx397_0 := (HB.out.cell (lD w _ hx397_0)).trans hx397_0
        have HR397_0 := aA.mk hi397_0
        have HC397_0 := aA.mk hl397_0
        clear hi397_0 hl397_0
        replace p397 := eq_true p397
        replace q397 := eq_true q397
        refine start_ (n := 10) (S := fun w' => w'.cell? (ad396.add (x5_1).toNat) = some (.slice A396_0 (rd_L6 l0 x5_1).length c396_0) ∧ w'.cell? (ad397.add (x5_1).toNat) = some (.slice A397_0 (rd_L6 l1 x5_1).length c397_0)) (ds := []) #[false, false, false, false, false, false, false, false, false, false] (by kernel_rfl) rfl rfl ⟨((HB.out.cell (lD w _ hw396_0)).trans hw396_0), ((HB.out.cell (lD w _ hw397_0)).trans hw397_0)⟩ (fun hHeld => ?_); refine with_tabW laws_eqKeySS.tab6 laws_eqKeySS.bits6 (fun HT_ HW_ => ?_)
        generalize wr.drew = w9 at HB HR396_0 HR397_0 hx396_0 hx397_0 hHeld ⊢
        refine bL (i := 0) (N := some 17) (v := ?_) (a' := ?_) #[true, false, false, false, false, false, false, false, false, false] rfl rfl (bQ HT_.out (by kernel_rfl)) (fun _ _ _ h => h) (Or.inl ⟨by rfl, ?_⟩) ?_ ?_
        rotate_left
        ·intro w'
         go_simp
         with_reducible rfl
        rotate_left
        ·simp only [Act.put, lA, lB, lC, bD, bC]
         rfl
        refine bL (i := 1) (N := some 18) (v := ?_) (a' := ?_) #[true, true, false, false, false, false, false, false, false, false] rfl rfl (bQ HT_.out (by kernel_rfl)) (fun _ _ _ h => h) (Or.inl ⟨by rfl, ?_⟩) ?_ ?_
        rotate_left
        ·intro w'
         go_simp
         with_reducible rfl
        rotate_left
        ·simp only [Act.put, lA, lB, lC, bD, bC]
         rfl
        refine bL (i := 2) (N := some 19) (v := ?_) (a' := ?_) #[true, true, true, false, false, false, false, false, false, false] rfl rfl (bQ HT_.out (by kernel_rfl)) (fun _ _ _ h => h) (Or.inl ⟨by rfl, ?_⟩) ?_ ?_
        rotate_left
        ·intro w'
         go_simp
         with_reducible rfl
        rotate_left
        ·simp only [Act.put, lA, lB, lC, bD, bC]
         rfl
        refine bL (i := 4) (N := some 21) (v := ?_) (a' := ?_) #[true, true, true, false, true, false, false, false, false, false] rfl rfl (bQ HT_.out (by kernel_rfl)) (fun _ _ _ h => h) (Or.inl ⟨by rfl, ?_⟩) ?_ ?_
        rotate_left
        ·intro w'
         go_simp
         with_reducible rfl
        rotate_left
        ·simp only [Act.put, lA, lB, lC, bD, bC]
         rfl
        refine bL (i := 5) (N := some 22) (v := ?_) (a' := ?_) #[true, true, true, false, true, true, false, false, false, false] rfl rfl (bQ HT_.out (by kernel_rfl)) (fun _ _ _ h => h) (Or.inl ⟨by rfl, ?_⟩) ?_ ?_
        rotate_left
        ·intro w'
         go_simp
         with_reducible rfl
        rotate_left
        ·simp only [Act.put, lA, lB, lC, bD, bC]
         rfl
        refine bL (i := 6) (N := some 23) (v := ?_) (a' := ?_) #[true, true, true, false, true, true, true, false, false, false] rfl rfl (bQ HT_.out (by kernel_rfl)) (fun _ _ _ h => h) (Or.inl ⟨by rfl, ?_⟩) ?_ ?_
        rotate_left
        ·intro w'
         go_simp
         with_reducible rfl
        rotate_left
        ·simp only [Act.put, lA, lB, lC, bD, bC]
         rfl
        refine take_ (i := 3) (N := some 20) (v := ?_) (a' := ?_) #[true, true, true, true, true, true, true, false, false, false] rfl rfl (take_ofW HT_.out HW_.out (by kernel_rfl)) (fun _ _ _ h => h) (Or.inl ⟨by rfl, ?_⟩) hHeld ?_ ?_
        rotate_left
        ·rintro w' ⟨s0, s1⟩
         go_simp
         with_reducible rfl
        rotate_left
        ·simp only [Act.put, lA, lB, lC, bD, bC]
         rfl
        refine take_ (i := 7) (N := some 24) (v := ?_) (a' := ?_) #[true, true, true, true, true, true, true, true, false, false] rfl rfl (take_ofW HT_.out HW_.out (by kernel_rfl)) (fun _ _ _ h => h) (Or.inl ⟨by rfl, ?_⟩) hHeld ?_ ?_
        rotate_left
        ·rintro w' ⟨s0, s1⟩
         go_simp
         with_reducible rfl
        rotate_left
        ·simp only [Act.put, lA, lB, lC, bD, bC]
         rfl
        refine one_ (i := 8) (N := some 25) #[true, true, true, true, true, true, true, true, true, false] rfl rfl (one_of HT_.out (by kernel_rfl)) (by decide) (fun K hK => ?_)
        refine goes_ Try.func105 (by kernel_rfl) rfl #[.slice A396_0 (rd_L6 l0 x5_1).length c396_0, .slice A397_0 (rd_L6 l1 x5_1).length c397_0] (by rfl) rfl rfl (by (try simp only [List.map_toArray, List.map_cons, List.map_nil]); first | done | rfl | (simp only [List.length_drop, List.length_take]; rfl)) ?_
        with_reducible refine (laws_eqKeyS.calls k1 _ _ (rd_L6 l0 x5_1) _ _ (rd_L6 l1 x5_1) true _ ?side1 ?side2 ?side3 ?side4 A7.out).mono ?_
        (case side1 => repeat (first | exact (Kd.bJ HR396_0.out HB.out) | (with_reducible refine Kd.bM ?_ _) | (with_reducible refine Kd.bN ?_ _) | (with_reducible refine Kd.bR ?_)))
        (case side2 => exact HC396_0.out)
        (case side3 => repeat (first | exact (Kd.bJ HR397_0.out HB.out) | (with_reducible refine Kd.bM ?_ _) | (with_reducible refine Kd.bN ?_ _) | (with_reducible refine Kd.bR ?_)))
        (case side4 => exact HC397_0.out)
        rintro e w10 ⟨rfl, hb⟩
        refine ⟨_, rfl, ?_⟩
        have n0_ := aA.mk (aU (by repeat (first | (with_reducible first | exact HB.out | apply aH | apply aC | apply aG) | exact HB.out)) hb)
        clear HB
        have HB := n0_
        clear n0_
        (try clear hb)
        (try clear hb2)
        (try clear hk)
        (try clear hi)
        refine hK.out _ _ ⟨((HB.out.cell (lD w _ hw396_0)).trans hw396_0), ((HB.out.cell (lD w _ hw397_0)).trans hw397_0)⟩ (fun hHeld => ?_)
        clear hK K
        refine norm_ (a' := ?_) ?_ ?_
        rotate_left
        ·show Act.put _ (some 25) _ = _
         simp only [Act.put, lA, lB, lC, bD, bC]
         rfl
        refine bL (i := 9) (N := some 26) (v := ?_) (a' := ?_) #[true, true, true, true, true, true, true, true, true, true] rfl rfl (bQ HT_.out (by kernel_rfl)) (fun _ _ _ h => h) (Or.inl ⟨by rfl, ?_⟩) ?_ ?_
        rotate_left
        ·intro w'
         go_simp
         with_reducible rfl
        rotate_left
        ·simp only [Act.put, lA, lB, lC, bD, bC]
         rfl
        refine done_ (done_of HT_.out (by kernel_rfl)) ?_
        try go_wp2
        go_roundg k1
        case measure => have := HK1.out; omega
        case rel => exact ⟨(wrap64 (x5_1 + 1)), (by first | rfl | (simp; done) | (simp [*]; done)), H', ⟨by have := HK1.out; omega⟩, ⟨by repeat (first | (with_reducible first | exact HB.out | apply aH | apply aC | apply aG) | exact HB.out)⟩⟩
       ·replace c8 := Bool.eq_false_iff.mpr c8
        subst c8
        have H1 : (some false) = some r := by rw [if_neg (show ¬ (false = true) by decide)] at H; exact H
        clear H
        have H := H1
        clear H1
        obtain rfl := Option.some.inj H
        try go_wp2
        have n0_ := aA.mk (aG HB.out)
        clear HB
        have HB := n0_
        clear n0_
        have p396 : 0 ≤ (x5_1 : Int) := lE (by first | (with_reducible assumption) | assumption)
        have q396 : x5_1 < (l0.length : Int) := lE (by first | (with_reducible assumption) | assumption)
        obtain ⟨ad396, A396_0, c396_0, e396, hx396_0, hl396_0, hi396_0⟩ := at_L6 HR0.out x5_1 p396 q396
        have hw396_0 := hx396_0
        cases e396
        replace hx396_0 := (HB.out.cell (lD w _ hx396_0)).trans hx396_0
        have HR396_0 := aA.mk hi396_0
        have HC396_0 := aA.mk hl396_0
        clear hi396_0 hl396_0
        replace p396 := eq_true p396
        replace q396 := eq_true q396
        have p397 : 0 ≤ (x5_1 : Int) := lE (by first | (with_reducible assumption) | assumption)
        have q397 : x5_1 < (l1.length : Int) := lE (by first | (with_reducible assumption) | assumption)
        obtain ⟨ad397, A397_0, c397_0, e397, hx397_0, hl397_0, hi397_0⟩ := at_L6 HR1.out x5_1 p397 q397
        have hw397_0 := hx397_0
        cases e397
        replace hx397_0 := (HB.out.cell (lD w _ hx397_0)).trans hx397_0
        have HR397_0 := aA.mk hi397_0
        have HC397_0 := aA.mk hl397_0
        clear hi397_0 hl397_0
        replace p397 := eq_true p397
        replace q397 := eq_true q397
        refine start_ (n := 10) (S := fun w' => w'.cell? (ad396.add (x5_1).toNat) = some (.slice A396_0 (rd_L6 l0 x5_1).length c396_0) ∧ w'.cell? (ad397.add (x5_1).toNat) = some (.slice A397_0 (rd_L6 l1 x5_1).length c397_0)) (ds := []) #[false, false, false, false, false, false, false, false, false, false] (by kernel_rfl) rfl rfl ⟨((HB.out.cell (lD w _ hw396_0)).trans hw396_0), ((HB.out.cell (lD w _ hw397_0)).trans hw397_0)⟩ (fun hHeld => ?_); refine with_tabW laws_eqKeySS.tab6 laws_eqKeySS.bits6 (fun HT_ HW_ => ?_)
        generalize wr.drew = w11 at HB HR396_0 HR397_0 hx396_0 hx397_0 hHeld ⊢
        refine bL (i := 0) (N := some 17) (v := ?_) (a' := ?_) #[true, false, false, false, false, false, false, false, false, false] rfl rfl (bQ HT_.out (by kernel_rfl)) (fun _ _ _ h => h) (Or.inl ⟨by rfl, ?_⟩) ?_ ?_
        rotate_left
        ·intro w'
         go_simp
         with_reducible rfl
        rotate_left
        ·simp only [Act.put, lA, lB, lC, bD, bC]
         rfl
        refine bL (i := 1) (N := some 18) (v := ?_) (a' := ?_) #[true, true, false, false, false, false, false, false, false, false] rfl rfl (bQ HT_.out (by kernel_rfl)) (fun _ _ _ h => h) (Or.inl ⟨by rfl, ?_⟩) ?_ ?_
        rotate_left
        ·intro w'
         go_simp
         with_reducible rfl
        rotate_left
        ·simp only [Act.put, lA, lB, lC, bD, bC]
         rfl
        refine bL (i := 2) (N := some 19) (v := ?_) (a' := ?_) #[true, true, true, false, false, false, false, false, false, false] rfl rfl (bQ HT_.out (by kernel_rfl)) (fun _ _ _ h => h) (Or.inl ⟨by rfl, ?_⟩) ?_ ?_
        rotate_left
        ·intro w'
         go_simp
         with_reducible rfl
        rotate_left
        ·simp only [Act.put, lA, lB, lC, bD, bC]
         rfl
        refine bL (i := 4) (N := some 21) (v := ?_) (a' := ?_) #[true, true, true, false, true, false, false, false, false, false] rfl rfl (bQ HT_.out (by kernel_rfl)) (fun _ _ _ h => h) (Or.inl ⟨by rfl, ?_⟩) ?_ ?_
        rotate_left
        ·intro w'
         go_simp
         with_reducible rfl
        rotate_left
        ·simp only [Act.put, lA, lB, lC, bD, bC]
         rfl
        refine bL (i := 5) (N := some 22) (v := ?_) (a' := ?_) #[true, true, true, false, true, true, false, false, false, false] rfl rfl (bQ HT_.out (by kernel_rfl)) (fun _ _ _ h => h) (Or.inl ⟨by rfl, ?_⟩) ?_ ?_
        rotate_left
        ·intro w'
         go_simp
         with_reducible rfl
        rotate_left
        ·simp only [Act.put, lA, lB, lC, bD, bC]
         rfl
        refine bL (i := 6) (N := some 23) (v := ?_) (a' := ?_) #[true, true, true, false, true, true, true, false, false, false] rfl rfl (bQ HT_.out (by kernel_rfl)) (fun _ _ _ h => h) (Or.inl ⟨by rfl, ?_⟩) ?_ ?_
        rotate_left
        ·intro w'
         go_simp
         with_reducible rfl
        rotate_left
        ·simp only [Act.put, lA, lB, lC, bD, bC]
         rfl
        refine take_ (i := 3) (N := some 20) (v := ?_) (a' := ?_) #[true, true, true, true, true, true, true, false, false, false] rfl rfl (take_ofW HT_.out HW_.out (by kernel_rfl)) (fun _ _ _ h => h) (Or.inl ⟨by rfl, ?_⟩) hHeld ?_ ?_
        rotate_left
        ·rintro w' ⟨s0, s1⟩
         go_simp
         with_reducible rfl
        rotate_left
        ·simp only [Act.put, lA, lB, lC, bD, bC]
         rfl
        refine take_ (i := 7) (N := some 24) (v := ?_) (a' := ?_) #[true, true, true, true, true, true, true, true, false, false] rfl rfl (take_ofW HT_.out HW_.out (by kernel_rfl)) (fun _ _ _ h => h) (Or.inl ⟨by rfl, ?_⟩) hHeld ?_ ?_
        rotate_left
        ·rintro w' ⟨s0, s1⟩
         go_simp
         with_reducible rfl
        rotate_left
        ·simp only [Act.put, lA, lB, lC, bD, bC]
         rfl
        refine one_ (i := 8) (N := some 25) #[true, true, true, true, true, true, true, true, true, false] rfl rfl (one_of HT_.out (by kernel_rfl)) (by decide) (fun K hK => ?_)
        refine goes_ Try.func105 (by kernel_rfl) rfl #[.slice A396_0 (rd_L6 l0 x5_1).length c396_0, .slice A397_0 (rd_L6 l1 x5_1).length c397_0] (by rfl) rfl rfl (by (try simp only [List.map_toArray, List.map_cons, List.map_nil]); first | done | rfl | (simp only [List.length_drop, List.length_take]; rfl)) ?_
        with_reducible refine (laws_eqKeyS.calls k1 _ _ (rd_L6 l0 x5_1) _ _ (rd_L6 l1 x5_1) false _ ?side1 ?side2 ?side3 ?side4 A7.out).mono ?_
        (case side1 => repeat (first | exact (Kd.bJ HR396_0.out HB.out) | (with_reducible refine Kd.bM ?_ _) | (with_reducible refine Kd.bN ?_ _) | (with_reducible refine Kd.bR ?_)))
        (case side2 => exact HC396_0.out)
        (case side3 => repeat (first | exact (Kd.bJ HR397_0.out HB.out) | (with_reducible refine Kd.bM ?_ _) | (with_reducible refine Kd.bN ?_ _) | (with_reducible refine Kd.bR ?_)))
        (case side4 => exact HC397_0.out)
        rintro e w12 ⟨rfl, hb⟩
        refine ⟨_, rfl, ?_⟩
        have n0_ := aA.mk (aU (by repeat (first | (with_reducible first | exact HB.out | apply aH | apply aC | apply aG) | exact HB.out)) hb)
        clear HB
        have HB := n0_
        clear n0_
        (try clear hb)
        (try clear hb2)
        (try clear hk)
        (try clear hi)
        refine hK.out _ _ ⟨((HB.out.cell (lD w _ hw396_0)).trans hw396_0), ((HB.out.cell (lD w _ hw397_0)).trans hw397_0)⟩ (fun hHeld => ?_)
        clear hK K
        refine norm_ (a' := ?_) ?_ ?_
        rotate_left
        ·show Act.put _ (some 25) _ = _
         simp only [Act.put, lA, lB, lC, bD, bC]
         rfl
        refine bL (i := 9) (N := some 26) (v := ?_) (a' := ?_) #[true, true, true, true, true, true, true, true, true, true] rfl rfl (bQ HT_.out (by kernel_rfl)) (fun _ _ _ h => h) (Or.inl ⟨by rfl, ?_⟩) ?_ ?_
        rotate_left
        ·intro w'
         go_simp
         with_reducible rfl
        rotate_left
        ·simp only [Act.put, lA, lB, lC, bD, bC]
         rfl
        refine done_ (done_of HT_.out (by kernel_rfl)) ?_
        try go_wp2
        go_ret
        exact ⟨by first | rfl | (simp [errW_none, errW_some] <;> rfl) | (simp [*, errW_none, errW_some] <;> rfl), by repeat (first | (with_reducible first | exact HB.out | apply aH | apply aC | apply aG) | exact HB.out)⟩
      ·rw [if_neg c6] at H
       exact absurd H (by simp)
     ·rw [if_neg c5] at H
      exact absurd H (by simp)
    ·rw [if_neg c4] at H
     have c4b0 : decide (x5_1 < (l0.length : Int)) = false := decide_eq_false c4
     clear c4
     obtain rfl := Option.some.inj H
     go_wp2
     go_ret
     exact ⟨by first | rfl | (simp [errW_none, errW_some] <;> rfl) | (simp [*, errW_none, errW_some] <;> rfl), by repeat (first | (with_reducible first | exact HB.out | apply aH | apply aC | apply aG) | exact HB.out)⟩
 ·rw [if_neg c3] at H
  have c3b0 : ((l0.length : Int) == (l1.length : Int)) = false := beq_eq_false_iff_ne.mpr c3
  have c3b1 : ((l0.length : Int) != (l1.length : Int)) = true := bne_iff_ne.mpr c3
  have c3b2 : (l0.length == l1.length) = false := by first | simpa using c3 | (simp at c3 ⊢; omega)
  obtain rfl := Option.some.inj H
  go_enter Try.func94, Try.ntmps94
  go_wp2
  go_ret
  exact ⟨by first | rfl | (simp [errW_none, errW_some] <;> rfl) | (simp [*, errW_none, errW_some] <;> rfl), by repeat (first | (with_reducible first | exact HB.out | apply aH | apply aC | apply aG) | exact HB.out)⟩
def laws_eqNode.f (k : Nat) (l0_0 : List (List (S38))) (l1_0 : List (List (S38))) : Option (Bool) := (laws_eqKeySS.f k l0_0 l1_0).bind fun t401 => (if t401 = true then (some true) else (some false))
set_option maxHeartbeats 8000000 in
set_option maxRecDepth 100000 in
theorem laws_eqNode.calls (k : Nat) (A0_0 : Option Addr) (c0_0 : Nat) (l0_0 : List (List (S38))) (A1_0 : Option Addr) (c1_0 : Nat) (l1_0 : List (List (S38))) (r : Bool) (w : World) (hr0_0 : Kd.C (Kd.slice 38 k38) w A0_0 l0_0.length l0_0) (hc0_0 : l0_0.length ≤ c0_0) (hr1_0 : Kd.C (Kd.slice 38 k38) w A1_0 l1_0.length l1_0) (hc1_0 : l1_0.length ≤ c1_0) (h : laws_eqNode.f k l0_0 l1_0 = some r) :
  Calls Try.prog 71 #[.agg #[.slice A0_0 l0_0.length c0_0], .agg #[.slice A1_0 l1_0.length c1_0]] w fun e w' => e = .returned (.bool r) ∧ Below w.heap.size w w' := by
 have hu59 := Try.underlying59
 have HR0_0 := aA.mk hr0_0
 have HC0_0 := aA.mk hc0_0
 clear hr0_0 hc0_0
 have HR1_0 := aA.mk hr1_0
 have HC1_0 := aA.mk hc1_0
 clear hr1_0 hc1_0
 have HB := aA.mk (Below.refl w.heap.size w)
 have H : ((laws_eqKeySS.f k l0_0 l1_0).bind fun t401 => (if t401 = true then (some true) else (some false))) = some r := h
 clear h
 replace H := lF H
 obtain ⟨t401, A30, H⟩ := H
 replace H : (if t401 = true then (some true) else (some false)) = some r := H
 have A3 := aA.mk A30
 clear A30
 by_cases c4 : t401 = true
 ·subst c4
  have H1 : (some true) = some r := by rw [if_pos rfl] at H; exact H
  clear H
  have H := H1
  clear H1
  obtain rfl := Option.some.inj H
  go_enter Try.func71, Try.ntmps71
  go_wp2_with (first | ((with_reducible refine aW (N := 2) rfl ?_); refine aX ?hg (N := 2) ?hd (cs := #[.slice A0_0 l0_0.length c0_0]) (t := 59) ?hr ?_; (case hd => rfl); (case hg => rfl); (case hr => first | (go_simp; done) | (go_simp; rfl)); intro gb399 hg w5 hbox hb; have n0_ := aA.mk (aU (by repeat (first | (with_reducible first | exact HB.out | apply aH | apply aC | apply aG) | exact HB.out)) hb); have n1_ := aA.mk (hbox); have n2_ := aA.mk ((by rw [hg]; exact (aT (by repeat (first | (with_reducible first | exact HB.out | apply aH | apply aC | apply aG) | exact HB.out))) : w.heap.size ≤ gb399)); have n3_ := aA.mk ((by rw [hg]; exact (aT (by repeat (first | (with_reducible first | exact HB.out | apply aH | apply aC | apply aG) | exact HB.out))) : w.heap.size ≤ gb399)); clear HB; have HB := n0_; have BK399 := n1_; have GW399 := n2_; have GE399 := n3_; clear n0_ n1_ n2_ n3_; clear hb hbox hg) | ((with_reducible refine aW (N := 3) rfl ?_); refine aX ?hg (N := 3) ?hd (cs := #[.slice A1_0 l1_0.length c1_0]) (t := 59) ?hr ?_; (case hd => rfl); (case hg => rfl); (case hr => first | (go_simp; done) | (go_simp; rfl)); intro gb400 hg w6 hbox hb; have n0_ := aA.mk (aV (g := gb399) (o := .cells #[.slice A0_0 l0_0.length c0_0] 59 (0, 0)) (by (with_reducible repeat (first | refine aN ?_ _ | refine aQ ?_ | refine aM ?_ _)); exact BK399.out) hb); have n1_ := aA.mk (aU (by repeat (first | (with_reducible first | exact HB.out | apply aH | apply aC | apply aG | refine aJ ?_ GE399.out) | exact HB.out)) hb); have n2_ := aA.mk (hbox); have n3_ := aA.mk ((by rw [hg]; exact (aT (by repeat (first | (with_reducible first | exact HB.out | apply aH | apply aC | apply aG | refine aJ ?_ GE399.out) | exact HB.out))) : w.heap.size ≤ gb400)); have n4_ := aA.mk ((by rw [hg]; exact (aT (by repeat (first | (with_reducible first | exact HB.out | apply aH | apply aC | apply aG | refine aJ ?_ GE399.out) | exact HB.out))) : w.heap.size ≤ gb400)); have n5_ := aA.mk ((by rw [hg]; exact Nat.ne_of_lt (bF (g := gb399) (o := .cells #[.slice A0_0 l0_0.length c0_0] 59 (0, 0)) (by (with_reducible repeat (first | refine aN ?_ _ | refine aQ ?_ | refine aM ?_ _)); exact BK399.out)) : gb399 ≠ gb400)); have n6_ := aA.mk ((by rw [hg]; exact Nat.ne_of_gt (bF (g := gb399) (o := .cells #[.slice A0_0 l0_0.length c0_0] 59 (0, 0)) (by (with_reducible repeat (first | refine aN ?_ _ | refine aQ ?_ | refine aM ?_ _)); exact BK399.out)) : gb400 ≠ gb399)); clear BK399; clear HB; have BK399 := n0_; have HB := n1_; have BK400 := n2_; have GW400 := n3_; have GE400 := n4_; have NB399_400 := n5_; have NB400_399 := n6_; clear n0_ n1_ n2_ n3_ n4_ n5_ n6_; clear hb hbox hg; have hnb7 := NB399_400.out; have hnc7 := NB400_399.out; have hcz8_0 : w6.cell? ⟨gb399, 0, none⟩ = some (.slice A0_0 l0_0.length c0_0) := (aE BK399.out 0).trans rfl; have hfz8_0 := aD BK399.out 0; have hcz9_0 : w6.cell? ⟨gb400, 0, none⟩ = some (.slice A1_0 l1_0.length c1_0) := (aE BK400.out 0).trans rfl; have hfz9_0 := aD BK400.out 0) | ((with_reducible refine bB (f := 94) rfl ?_); refine bP (some 9) rfl rfl Try.func94 (by kernel_rfl) rfl #[.slice A0_0 l0_0.length c0_0, .slice A1_0 l1_0.length c1_0] rfl (by (try simp only [List.map_toArray, List.map_cons, List.map_nil]); first | done | rfl | (simp only [List.length_drop, List.length_take]; rfl)) ?_; (with_reducible refine (laws_eqKeySS.calls k _ _ l0_0 _ _ l1_0 true _ ?side1 ?side2 ?side3 ?side4 A3.out).mono ?_); (case side1 => repeat (first | exact (Kd.bJ HR0_0.out HB.out) | (with_reducible refine Kd.bM ?_ _) | (with_reducible refine Kd.bN ?_ _) | (with_reducible refine Kd.bR ?_))); (case side2 => exact HC0_0.out); (case side3 => repeat (first | exact (Kd.bJ HR1_0.out HB.out) | (with_reducible refine Kd.bM ?_ _) | (with_reducible refine Kd.bN ?_ _) | (with_reducible refine Kd.bR ?_))); (case side4 => exact HC1_0.out); rintro e w10 ⟨rfl, hb⟩; refine ⟨_, rfl, ?_⟩; have n0_ := aA.mk (aV (g := gb399) (o := .cells #[.slice A0_0 l0_0.length c0_0] 59 (0, 0)) (by (with_reducible repeat (first | refine aN ?_ _ | refine aQ ?_ | refine aM ?_ _)); exact BK399.out) hb); have n1_ := aA.mk (aV (g := gb400) (o := .cells #[.slice A1_0 l1_0.length c1_0] 59 (0, 0)) (by (with_reducible repeat (first | refine aN ?_ _ | refine aQ ?_ | refine aM ?_ _)); exact BK400.out) hb); have n2_ := aA.mk (aU (by repeat (first | (with_reducible first | exact HB.out | apply aH | apply aC | apply aG | refine aJ ?_ GE399.out | refine aJ ?_ GE400.out) | exact HB.out)) hb); clear BK399; clear BK400; clear HB; have BK399 := n0_; have BK400 := n1_; have HB := n2_; clear n0_ n1_ n2_; (try clear hb)))
  go_ret
  exact ⟨by first | rfl | (simp [errW_none, errW_some] <;> rfl) | (simp [*, errW_none, errW_some] <;> rfl), by repeat (first | (with_reducible first | exact HB.out | apply aH | apply aC | apply aG | refine aJ ?_ GE399.out | refine aJ ?_ GE400.out) | exact HB.out)⟩
 ·replace c4 := Bool.eq_false_iff.mpr c4
  subst c4
  have H1 : (some false) = some r := by rw [if_neg (show ¬ (false = true) by decide)] at H; exact H
  clear H
  have H := H1
  clear H1
  obtain rfl := Option.some.inj H
  go_enter Try.func71, Try.ntmps71
  go_wp2_with (first | ((with_reducible refine aW (N := 2) rfl ?_); refine aX ?hg (N := 2) ?hd (cs := #[.slice A0_0 l0_0.length c0_0]) (t := 59) ?hr ?_; (case hd => rfl); (case hg => rfl); (case hr => first | (go_simp; done) | (go_simp; rfl)); intro gb399 hg w11 hbox hb; have n0_ := aA.mk (aU (by repeat (first | (with_reducible first | exact HB.out | apply aH | apply aC | apply aG) | exact HB.out)) hb); have n1_ := aA.mk (hbox); have n2_ := aA.mk ((by rw [hg]; exact (aT (by repeat (first | (with_reducible first | exact HB.out | apply aH | apply aC | apply aG) | exact HB.out))) : w.heap.size ≤ gb399)); have n3_ := aA.mk ((by rw [hg]; exact (aT (by repeat (first | (with_reducible first | exact HB.out | apply aH | apply aC | apply aG) | exact HB.out))) : w.heap.size ≤ gb399)); clear HB; have HB := n0_; have BK399 := n1_; have GW399 := n2_; have GE399 := n3_; clear n0_ n1_ n2_ n3_; clear hb hbox hg) | ((with_reducible refine aW (N := 3) rfl ?_); refine aX ?hg (N := 3) ?hd (cs := #[.slice A1_0 l1_0.length c1_0]) (t := 59) ?hr ?_; (case hd => rfl); (case hg => rfl); (case hr => first | (go_simp; done) | (go_simp; rfl)); intro gb400 hg w12 hbox hb; have n0_ := aA.mk (aV (g := gb399) (o := .cells #[.slice A0_0 l0_0.length c0_0] 59 (0, 0)) (by (with_reducible repeat (first | refine aN ?_ _ | refine aQ ?_ | refine aM ?_ _)); exact BK399.out) hb); have n1_ := aA.mk (aU (by repeat (first | (with_reducible first | exact HB.out | apply aH | apply aC | apply aG | refine aJ ?_ GE399.out) | exact HB.out)) hb); have n2_ := aA.mk (hbox); have n3_ := aA.mk ((by rw [hg]; exact (aT (by repeat (first | (with_reducible first | exact HB.out | apply aH | apply aC | apply aG | refine aJ ?_ GE399.out) | exact HB.out))) : w.heap.size ≤ gb400)); have n4_ := aA.mk ((by rw [hg]; exact (aT (by repeat (first | (with_reducible first | exact HB.out | apply aH | apply aC | apply aG | refine aJ ?_ GE399.out) | exact HB.out))) : w.heap.size ≤ gb400)); have n5_ := aA.mk ((by rw [hg]; exact Nat.ne_of_lt (bF (g := gb399) (o := .cells #[.slice A0_0 l0_0.length c0_0] 59 (0, 0)) (by (with_reducible repeat (first | refine aN ?_ _ | refine aQ ?_ | refine aM ?_ _)); exact BK399.out)) : gb399 ≠ gb400)); have n6_ := aA.mk ((by rw [hg]; exact Nat.ne_of_gt (bF (g := gb399) (o := .cells #[.slice A0_0 l0_0.length c0_0] 59 (0, 0)) (by (with_reducible repeat (first | refine aN ?_ _ | refine aQ ?_ | refine aM ?_ _)); exact BK399.out)) : gb400 ≠ gb399)); clear BK399; clear HB; have BK399 := n0_; have HB := n1_; have BK400 := n2_; have GW400 := n3_; have GE400 := n4_; have NB399_400 := n5_; have NB400_399 := n6_; clear n0_ n1_ n2_ n3_ n4_ n5_ n6_; clear hb hbox hg; have hnb13 := NB399_400.out; have hnc13 := NB400_399.out; have hcz14_0 : w12.cell? ⟨gb399, 0, none⟩ = some (.slice A0_0 l0_0.length c0_0) := (aE BK399.out 0).trans rfl; have hfz14_0 := aD BK399.out 0; have hcz15_0 : w12.cell? ⟨gb400, 0, none⟩ = some (.slice A1_0 l1_0.length c1_0) := (aE BK400.out 0).trans rfl; have hfz15_0 := aD BK400.out 0) | ((with_reducible refine bB (f := 94) rfl ?_); refine bP (some 9) rfl rfl Try.func94 (by kernel_rfl) rfl #[.slice A0_0 l0_0.length c0_0, .slice A1_0 l1_0.length c1_0] rfl (by (try simp only [List.map_toArray, List.map_cons, List.map_nil]); first | done | rfl | (simp only [List.length_drop, List.length_take]; rfl)) ?_; (with_reducible refine (laws_eqKeySS.calls k _ _ l0_0 _ _ l1_0 false _ ?side1 ?side2 ?side3 ?side4 A3.out).mono ?_); (case side1 => repeat (first | exact (Kd.bJ HR0_0.out HB.out) | (with_reducible refine Kd.bM ?_ _) | (with_reducible refine Kd.bN ?_ _) | (with_reducible refine Kd.bR ?_))); (case side2 => exact HC0_0.out); (case side3 => repeat (first | exact (Kd.bJ HR1_0.out HB.out) | (with_reducible refine Kd.bM ?_ _) | (with_reducible refine Kd.bN ?_ _) | (with_reducible refine Kd.bR ?_))); (case side4 => exact HC1_0.out); rintro e w16 ⟨rfl, hb⟩; refine ⟨_, rfl, ?_⟩; have n0_ := aA.mk (aV (g := gb399) (o := .cells #[.slice A0_0 l0_0.length c0_0] 59 (0, 0)) (by (with_reducible repeat (first | refine aN ?_ _ | refine aQ ?_ | refine aM ?_ _)); exact BK399.out) hb); have n1_ := aA.mk (aV (g := gb400) (o := .cells #[.slice A1_0 l1_0.length c1_0] 59 (0, 0)) (by (with_reducible repeat (first | refine aN ?_ _ | refine aQ ?_ | refine aM ?_ _)); exact BK400.out) hb); have n2_ := aA.mk (aU (by repeat (first | (with_reducible first | exact HB.out | apply aH | apply aC | apply aG | refine aJ ?_ GE399.out | refine aJ ?_ GE400.out) | exact HB.out)) hb); clear BK399; clear BK400; clear HB; have BK399 := n0_; have BK400 := n1_; have HB := n2_; clear n0_ n1_ n2_; (try clear hb)))
  go_ret
  exact ⟨by first | rfl | (simp [errW_none, errW_some] <;> rfl) | (simp [*, errW_none, errW_some] <;> rfl), by repeat (first | (with_reducible first | exact HB.out | apply aH | apply aC | apply aG | refine aJ ?_ GE399.out | refine aJ ?_ GE400.out) | exact HB.out)⟩
end Go.Proofs.Ytamjbjkbineafaa.PFnExactTreePack
