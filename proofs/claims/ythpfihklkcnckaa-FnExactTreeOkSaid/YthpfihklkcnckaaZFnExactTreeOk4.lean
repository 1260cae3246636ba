/- The law: the functions that it reaches, each with the proof that the machine's call comes to its answer, what they answer, and the law's row; each theorem says its conditions itself. -/
import Derived.Test.YthpfihklkcnckaaZFnExactTreeOk3
namespace Go.Proofs.Ythpfihklkcnckaa.PFnExactTreeOk
open Go.RowKit Go.Proofs.YthpfihklkcnckaaW.PrintWords Go.Proofs.YthpfihklkcnckaaW.PrintLast Go.Proofs.YthpfihklkcnckaaW.PrintMore
attribute [local go_sem] max2_int min2_int max_two min_two max_three min_three max_four min_four   -- for this text's walks alone
set_option linter.unusedVariables false
set_option linter.unusedSimpArgs false
def impl_Drop.l0 : Nat → List (S27) → List (S27) → Int → Int → Option ((List (S27)))
 | 0, _, _, _, _ => none
 | k + 1, x3, x7, x8, x9 => if x9 < x8 then (if 0 ≤ x9 then (if x9 < (x7.length : Int) then (if ((rd_T27 x7 x9).f2) = 0 then (impl_Drop.l0 k x3 x7 x8 (wrap64 (x9 + 1))) else (if x3.length < 3518437208883 then (impl_Drop.l0 k (x3 ++ [(⟨(rd_T27 x7 x9).f0, (rd_T27 x7 x9).f1, (rd_T27 x7 x9).f2, (rd_T27 x7 x9).f3, (rd_T27 x7 x9).f4⟩ : S27)]) x7 x8 (wrap64 (x9 + 1))) else (none))) else (none)) else (none)) else (some x3)
def impl_Drop.f (k : Nat) (l0 : List (S27)) : Option ((List (S27))) := impl_Drop.l0 k (([] : List (S27))) l0 (l0.length : Int) 0
set_option maxHeartbeats 8000000 in
set_option maxRecDepth 100000 in
theorem impl_Drop.calls (k : Nat) (A0 : Option Addr) (c0 : Nat) (l0 : List (S27)) (r : List (S27)) (w : World) (hr0 : Kd.C k27 w A0 l0.length l0) (hc0 : l0.length ≤ c0) (h : impl_Drop.f k l0 = some r) :
  Calls Try.prog 67 #[.slice A0 l0.length c0] w fun e w' => ∃ v0_ : Value, e = .returned (v0_) ∧ Kd.R k27 27 w' w.heap.size (fun _ => True) v0_ r ∧ Below w.heap.size w w' := by
 have hu27 := Try.underlying27
 have HR0 := aA.mk hr0
 have HC0 := aA.mk hc0
 clear hr0 hc0
 have HB := aA.mk (Below.refl w.heap.size w)
 have H : (impl_Drop.l0 k (([] : List (S27))) l0 (l0.length : Int) 0) = some r := h
 clear h
 obtain ⟨y344, hy344⟩ : ∃ y_ : List (S27), y_ = (([] : List (S27))) := ⟨_, rfl⟩
 replace H : (impl_Drop.l0 k y344 l0 (l0.length : Int) 0) = some r := by first | (rw [hy344]; with_reducible exact H) | (have H2_ := (Option.bind_some _ _).symm.trans H; rw [hy344]; with_reducible exact H2_) | (have H2_ := (Option.bind_some _ _).symm.trans H; with_reducible exact H2_) | with_reducible exact H | (rw [hy344]; exact H) | exact H
 have Ny344 := aA.mk hy344
 clear hy344
 have H' := aA.mk H
 clear H
 go_enter Try.func67, Try.ntmps67
 go_wp2_with (first | ((with_reducible refine bF (N := 6) rfl ?_); refine Kd.R_lit k27 _ 27 ?hg (N := 6) ?hd (xs := ([] : List (S27))) (inner := []) (ok := fun _ => True) (okp := fun _ => True) ?hr ?hp (fun _ hk => hk) trivial (Below.refl _ _) (Nat.le_refl _) (by simp) ?_; (case hd => rfl); (case hg => rfl); (case hr => first | (go_simp; done) | (go_simp; rfl)); (case hp => exact (Reps.none _ _)); intro v345 w2 ho3 hb hg_ hnew_; clear hg_ hnew_; (first | rw [← Ny344.out] at ho3 | (simp only [Int.reduceToNat] at ho3; rw [← Ny344.out] at ho3)); have n0_ := aA.mk (Kd.R_lower ho3 (aQ (by repeat (first | (with_reducible first | exact HB.out | apply aE | apply aC | apply aD) | exact HB.out)))); have n1_ := aA.mk (aV (by repeat (first | (with_reducible first | exact HB.out | apply aE | apply aC | apply aD) | exact HB.out)) hb); clear HB; have HO346 := n0_; have HB := n1_; clear n0_ n1_; clear hb ho3))
 go_loopg [3, 9] k (fun kq v3 v9 w' => ∃ (x3_1 : List (S27)) (x9_1 : Int), v9 = .int .i64 x9_1 ∧ aA (impl_Drop.l0 kq x3_1 l0 (l0.length : Int) x9_1 = some r) ∧ aA (kq ≤ k) ∧ aA (Kd.R k27 27 w' w.heap.size (fun _ => True) v3 x3_1) ∧ aA (Below w.heap.size w w'))
 case atStart => exact ⟨(y344), (0), (by first | rfl | (simp; done) | (simp [*]; done)), H', ⟨Nat.le_refl _⟩, ⟨by (with_reducible repeat (first | apply Kd.bA | apply Kd.aZ | apply Kd.bB)); exact HO346.out⟩, ⟨by repeat (first | (with_reducible first | exact HB.out | apply aE | apply aC | apply aD) | exact HB.out)⟩⟩
 case round =>
  clear H'
  try clear p2
  obtain ⟨x3_1, x9_1, rfl, HA, HK1, HO_3, HB⟩ := hrel
  cases gk with
  | zero => exact absurd HA.out (by simp [impl_Drop.l0])
  | succ k1 =>
   have H := HA.out
   clear HA
   simp only [impl_Drop.l0] at H
   by_cases c4 : x9_1 < (l0.length : Int)
   ·rw [if_pos c4] at H
    have c4b0 : decide (x9_1 < (l0.length : Int)) = true := decide_eq_true c4
    clear c4
    by_cases c5 : 0 ≤ x9_1
    ·rw [if_pos c5] at H
     have c5b0 : decide (0 ≤ x9_1) = true := decide_eq_true c5
     clear c5
     by_cases c6 : x9_1 < (l0.length : Int)
     ·rw [if_pos c6] at H
      have c6b0 : decide (x9_1 < (l0.length : Int)) = true := decide_eq_true c6
      clear c6
      by_cases c7 : ((rd_T27 l0 x9_1).f2) = 0
      ·rw [if_pos c7] at H
       have c7b0 : (((rd_T27 l0 x9_1).f2) == 0) = true := beq_iff_eq.mpr c7
       have c7b1 : (((rd_T27 l0 x9_1).f2) != 0) = false := bne_eq_false_iff_eq.mpr c7
       clear c7
       have H' := aA.mk H
       clear H
       have p347 : 0 ≤ (x9_1 : Int) := lE (by first | (with_reducible assumption) | assumption)
       have q347 : x9_1 < (l0.length : Int) := lE (by first | (with_reducible assumption) | assumption)
       obtain ⟨ad347, e347, hx347_0, hx347_1, hx347_2, hx347_3, hx347_4⟩ := at_T27 HR0.out x9_1 p347 q347
       cases e347
       replace hx347_0 := (HB.out.cell (lD w _ hx347_0)).trans hx347_0
       replace hx347_1 := (HB.out.cell (lD w _ hx347_1)).trans hx347_1
       replace hx347_2 := (HB.out.cell (lD w _ hx347_2)).trans hx347_2
       replace hx347_3 := (HB.out.cell (lD w _ hx347_3)).trans hx347_3
       replace hx347_4 := (HB.out.cell (lD w _ hx347_4)).trans hx347_4
       replace p347 := eq_true p347
       replace q347 := eq_true q347
       go_wp2_with (first | ((with_reducible refine bF (N := 5) rfl ?_); refine bH ?hg (N := 5) ?hd (cs := #[.int .i64 0, .int .i64 0, .int .i64 0, .int .i64 0, .int .i64 0]) (t := 27) ?hr ?_; (case hd => rfl); (case hg => rfl); (case hr => first | (go_simp; done) | (go_simp; rfl)); intro gb348 hg w8 hbox hb; have n0_ := aA.mk (Kd.bQ (Kd.R_elderB (by (with_reducible repeat (first | apply Kd.bA | apply Kd.aZ | apply Kd.bB)); exact HO_3.out) gb348 (Nat.le_of_eq hg.symm)) hb); have n1_ := aA.mk (aV (by repeat (first | (with_reducible first | exact HB.out | apply aE | apply aC | apply aD) | exact HB.out)) hb); have n2_ := aA.mk (hbox); have n3_ := aA.mk ((by rw [hg]; exact (aQ (by repeat (first | (with_reducible first | exact HB.out | apply aE | apply aC | apply aD) | exact HB.out))) : w.heap.size ≤ gb348)); have n4_ := aA.mk ((by rw [hg]; exact (aQ (by repeat (first | (with_reducible first | exact HB.out | apply aE | apply aC | apply aD) | exact HB.out))) : w.heap.size ≤ gb348)); clear HO_3; clear HB; have HO_3 := n0_; have HB := n1_; have BK348 := n2_; have GW348 := n3_; have GE348 := n4_; clear n0_ n1_ n2_ n3_ n4_; clear hb hbox hg; have hcz9_0 : w8.cell? ⟨gb348, 0, none⟩ = some (.int .i64 0) := (aG BK348.out 0).trans rfl; have hcz9_1 : w8.cell? ⟨gb348, 1, none⟩ = some (.int .i64 0) := (aG BK348.out 1).trans rfl; have hcz9_2 : w8.cell? ⟨gb348, 2, none⟩ = some (.int .i64 0) := (aG BK348.out 2).trans rfl; have hcz9_3 : w8.cell? ⟨gb348, 3, none⟩ = some (.int .i64 0) := (aG BK348.out 3).trans rfl; have hcz9_4 : w8.cell? ⟨gb348, 4, none⟩ = some (.int .i64 0) := (aG BK348.out 4).trans rfl; have hfz9_0 := aH BK348.out 0; have hfz9_1 := aH BK348.out 1; have hfz9_2 := aH BK348.out 2; have hfz9_3 := aH BK348.out 3; have hfz9_4 := aH BK348.out 4))
       go_roundg k1
       case measure => have := HK1.out; omega
       case rel => exact ⟨(x3_1), (wrap64 (x9_1 + 1)), (by first | rfl | (simp; done) | (simp [*]; done)), H', ⟨by have := HK1.out; omega⟩, ⟨by (with_reducible repeat (first | apply Kd.bA | apply Kd.aZ | apply Kd.bB)); exact Kd.bR (Kd.R_far (p := ⟨gb348, 4, none⟩) (Kd.R_far (p := ⟨gb348, 3, none⟩) (Kd.R_far (p := ⟨gb348, 2, none⟩) (Kd.R_far (p := ⟨gb348, 1, none⟩) (Kd.R_far (p := ⟨gb348, 0, none⟩) (Kd.bR HO_3.out (fun k_ hk => (⟨hk, hk.2⟩ : _ ∧ k_ ≠ gb348))) (fun _ hk => hk.2) (.int .i64 ((rd_T27 l0 x9_1).f0))) (fun _ hk => hk.2) (.int .i64 ((rd_T27 l0 x9_1).f1))) (fun _ hk => hk.2) (.int .i64 ((rd_T27 l0 x9_1).f2))) (fun _ hk => hk.2) (.int .i64 ((rd_T27 l0 x9_1).f3))) (fun _ hk => hk.2) (.int .i64 ((rd_T27 l0 x9_1).f4))) (fun _ hk => trivial)⟩, ⟨by repeat (first | (with_reducible first | exact HB.out | apply aE | apply aC | apply aD | refine aJ ?_ GE348.out) | exact HB.out)⟩⟩
      ·rw [if_neg c7] at H
       have c7b0 : (((rd_T27 l0 x9_1).f2) == 0) = false := beq_eq_false_iff_ne.mpr c7
       have c7b1 : (((rd_T27 l0 x9_1).f2) != 0) = true := bne_iff_ne.mpr c7
       by_cases c10 : x3_1.length < 3518437208883
       ·rw [if_pos c10] at H
        have LMc10 := aA.mk c10
        clear c10
        obtain ⟨y349, hy349⟩ : ∃ y_ : List (S27), y_ = (x3_1 ++ [(⟨(rd_T27 l0 x9_1).f0, (rd_T27 l0 x9_1).f1, (rd_T27 l0 x9_1).f2, (rd_T27 l0 x9_1).f3, (rd_T27 l0 x9_1).f4⟩ : S27)]) := ⟨_, rfl⟩
        replace H : (impl_Drop.l0 k1 y349 l0 (l0.length : Int) (wrap64 (x9_1 + 1))) = some r := by first | (rw [hy349]; with_reducible exact H) | (have H2_ := (Option.bind_some _ _).symm.trans H; rw [hy349]; with_reducible exact H2_) | (have H2_ := (Option.bind_some _ _).symm.trans H; with_reducible exact H2_) | with_reducible exact H | (rw [hy349]; exact H) | exact H
        have Ny349 := aA.mk hy349
        clear hy349
        have H' := aA.mk H
        clear H
        have p347 : 0 ≤ (x9_1 : Int) := lE (by first | (with_reducible assumption) | assumption)
        have q347 : x9_1 < (l0.length : Int) := lE (by first | (with_reducible assumption) | assumption)
        obtain ⟨ad347, e347, hx347_0, hx347_1, hx347_2, hx347_3, hx347_4⟩ := at_T27 HR0.out x9_1 p347 q347
        cases e347
        replace hx347_0 := (HB.out.cell (lD w _ hx347_0)).trans hx347_0
        replace hx347_1 := (HB.out.cell (lD w _ hx347_1)).trans hx347_1
        replace hx347_2 := (HB.out.cell (lD w _ hx347_2)).trans hx347_2
        replace hx347_3 := (HB.out.cell (lD w _ hx347_3)).trans hx347_3
        replace hx347_4 := (HB.out.cell (lD w _ hx347_4)).trans hx347_4
        replace p347 := eq_true p347
        replace q347 := eq_true q347
        go_wp2_with (first | ((with_reducible refine bF (N := 5) rfl ?_); refine bH ?hg (N := 5) ?hd (cs := #[.int .i64 0, .int .i64 0, .int .i64 0, .int .i64 0, .int .i64 0]) (t := 27) ?hr ?_; (case hd => rfl); (case hg => rfl); (case hr => first | (go_simp; done) | (go_simp; rfl)); intro gb348 hg w11 hbox hb; have n0_ := aA.mk (Kd.bQ (Kd.R_elderB (by (with_reducible repeat (first | apply Kd.bA | apply Kd.aZ | apply Kd.bB)); exact HO_3.out) gb348 (Nat.le_of_eq hg.symm)) hb); have n1_ := aA.mk (aV (by repeat (first | (with_reducible first | exact HB.out | apply aE | apply aC | apply aD) | exact HB.out)) hb); have n2_ := aA.mk (hbox); have n3_ := aA.mk ((by rw [hg]; exact (aQ (by repeat (first | (with_reducible first | exact HB.out | apply aE | apply aC | apply aD) | exact HB.out))) : w.heap.size ≤ gb348)); have n4_ := aA.mk ((by rw [hg]; exact (aQ (by repeat (first | (with_reducible first | exact HB.out | apply aE | apply aC | apply aD) | exact HB.out))) : w.heap.size ≤ gb348)); clear HO_3; clear HB; have HO_3 := n0_; have HB := n1_; have BK348 := n2_; have GW348 := n3_; have GE348 := n4_; clear n0_ n1_ n2_ n3_ n4_; clear hb hbox hg; have hcz12_0 : w11.cell? ⟨gb348, 0, none⟩ = some (.int .i64 0) := (aG BK348.out 0).trans rfl; have hcz12_1 : w11.cell? ⟨gb348, 1, none⟩ = some (.int .i64 0) := (aG BK348.out 1).trans rfl; have hcz12_2 : w11.cell? ⟨gb348, 2, none⟩ = some (.int .i64 0) := (aG BK348.out 2).trans rfl; have hcz12_3 : w11.cell? ⟨gb348, 3, none⟩ = some (.int .i64 0) := (aG BK348.out 3).trans rfl; have hcz12_4 : w11.cell? ⟨gb348, 4, none⟩ = some (.int .i64 0) := (aG BK348.out 4).trans rfl; have hfz12_0 := aH BK348.out 0; have hfz12_1 := aH BK348.out 1; have hfz12_2 := aH BK348.out 2; have hfz12_3 := aH BK348.out 3; have hfz12_4 := aH BK348.out 4) | ((with_reducible refine gate_builtin (b := .append) (xs := #[.tmp 16, .tmp 18]) rfl ?_); at_builtin; refine Kd.R_append k27 (w0 := w) w.heap.size rfl (.tmp 16) (.tmp 18) 40 27 (.agg #[(.int .i64 0), (.int .i64 0), (.int .i64 0), (.int .i64 0), (.int .i64 0)]) 40 rfl Try.underlying40 info27 rfl (by decide) (by omega) u3 x3_1 (⟨(rd_T27 l0 x9_1).f0, (rd_T27 l0 x9_1).f1, (rd_T27 l0 x9_1).f2, (rd_T27 l0 x9_1).f3, (rd_T27 l0 x9_1).f4⟩ : S27) [.int .i64 ((rd_T27 l0 x9_1).f0), .int .i64 ((rd_T27 l0 x9_1).f1), .int .i64 ((rd_T27 l0 x9_1).f2), .int .i64 ((rd_T27 l0 x9_1).f3), .int .i64 ((rd_T27 l0 x9_1).f4)] (fun k_ => k_ ≠ gb348) (fun _ => False) rfl (by first | (go_simp; done) | (go_simp; rfl)) ?aP (fun _ hk => hk.elim) ?aF ?aO ?aB ?aS ?aL ?_; (case aP => exact k27_mkM _ _ _ (⟨(rd_T27 l0 x9_1).f0, (rd_T27 l0 x9_1).f1, (rd_T27 l0 x9_1).f2, (rd_T27 l0 x9_1).f3, (rd_T27 l0 x9_1).f4⟩ : S27)); (case aB => exact (by repeat (first | (with_reducible first | exact HB.out | apply aE | apply aC | apply aD | refine aJ ?_ GE348.out) | exact HB.out))); (case aF => exact (fun k_ hk => Kd.freshB (g := gb348) (o := .cells #[.int .i64 ((rd_T27 l0 x9_1).f0), .int .i64 ((rd_T27 l0 x9_1).f1), .int .i64 ((rd_T27 l0 x9_1).f2), .int .i64 ((rd_T27 l0 x9_1).f3), .int .i64 ((rd_T27 l0 x9_1).f4)] 27 (0, 0)) (by (with_reducible repeat (first | refine aK ?_ _ | refine aN ?_ | refine aM ?_ _)); refine bM (cs := #[.int .i64 ((rd_T27 l0 x9_1).f0), .int .i64 ((rd_T27 l0 x9_1).f1), .int .i64 ((rd_T27 l0 x9_1).f2), .int .i64 ((rd_T27 l0 x9_1).f3), .int .i64 0]) ?_ 4 _ rfl; (with_reducible repeat (first | refine aK ?_ _ | refine aN ?_ | refine aM ?_ _)); refine bM (cs := #[.int .i64 ((rd_T27 l0 x9_1).f0), .int .i64 ((rd_T27 l0 x9_1).f1), .int .i64 ((rd_T27 l0 x9_1).f2), .int .i64 0, .int .i64 0]) ?_ 3 _ rfl; (with_reducible repeat (first | refine aK ?_ _ | refine aN ?_ | refine aM ?_ _)); refine bM (cs := #[.int .i64 ((rd_T27 l0 x9_1).f0), .int .i64 ((rd_T27 l0 x9_1).f1), .int .i64 0, .int .i64 0, .int .i64 0]) ?_ 2 _ rfl; (with_reducible repeat (first | refine aK ?_ _ | refine aN ?_ | refine aM ?_ _)); refine bM (cs := #[.int .i64 ((rd_T27 l0 x9_1).f0), .int .i64 0, .int .i64 0, .int .i64 0, .int .i64 0]) ?_ 1 _ rfl; (with_reducible repeat (first | refine aK ?_ _ | refine aN ?_ | refine aM ?_ _)); refine bM (cs := #[.int .i64 0, .int .i64 0, .int .i64 0, .int .i64 0, .int .i64 0]) ?_ 0 _ rfl; (with_reducible repeat (first | refine aK ?_ _ | refine aN ?_ | refine aM ?_ _)); exact BK348.out) k_ hk)); (case aO => exact (by (with_reducible repeat (first | apply Kd.bA | apply Kd.aZ | apply Kd.bB)); exact Kd.bR (Kd.R_far (p := ⟨gb348, 4, none⟩) (Kd.R_far (p := ⟨gb348, 3, none⟩) (Kd.R_far (p := ⟨gb348, 2, none⟩) (Kd.R_far (p := ⟨gb348, 1, none⟩) (Kd.R_far (p := ⟨gb348, 0, none⟩) (Kd.bR HO_3.out (fun k_ hk => (⟨hk, hk.2⟩ : _ ∧ k_ ≠ gb348))) (fun _ hk => hk.2) (.int .i64 ((rd_T27 l0 x9_1).f0))) (fun _ hk => hk.2) (.int .i64 ((rd_T27 l0 x9_1).f1))) (fun _ hk => hk.2) (.int .i64 ((rd_T27 l0 x9_1).f2))) (fun _ hk => hk.2) (.int .i64 ((rd_T27 l0 x9_1).f3))) (fun _ hk => hk.2) (.int .i64 ((rd_T27 l0 x9_1).f4))) (fun _ hk => hk.1.2))); (case aS => exact (aQ (by repeat (first | (with_reducible first | exact HB.out | apply aE | apply aC | apply aD | refine aJ ?_ GE348.out) | exact HB.out)))); (case aL => have := LMc10.out; omega); intro v350 w13 ho hb hg hat; rw [← Ny349.out] at ho; have n0_ := aA.mk (blk_grown (g := gb348) (o := .cells #[.int .i64 ((rd_T27 l0 x9_1).f0), .int .i64 ((rd_T27 l0 x9_1).f1), .int .i64 ((rd_T27 l0 x9_1).f2), .int .i64 ((rd_T27 l0 x9_1).f3), .int .i64 ((rd_T27 l0 x9_1).f4)] 27 (0, 0)) (by (with_reducible repeat (first | refine aK ?_ _ | refine aN ?_ | refine aM ?_ _)); refine bM (cs := #[.int .i64 ((rd_T27 l0 x9_1).f0), .int .i64 ((rd_T27 l0 x9_1).f1), .int .i64 ((rd_T27 l0 x9_1).f2), .int .i64 ((rd_T27 l0 x9_1).f3), .int .i64 0]) ?_ 4 _ rfl; (with_reducible repeat (first | refine aK ?_ _ | refine aN ?_ | refine aM ?_ _)); refine bM (cs := #[.int .i64 ((rd_T27 l0 x9_1).f0), .int .i64 ((rd_T27 l0 x9_1).f1), .int .i64 ((rd_T27 l0 x9_1).f2), .int .i64 0, .int .i64 0]) ?_ 3 _ rfl; (with_reducible repeat (first | refine aK ?_ _ | refine aN ?_ | refine aM ?_ _)); refine bM (cs := #[.int .i64 ((rd_T27 l0 x9_1).f0), .int .i64 ((rd_T27 l0 x9_1).f1), .int .i64 0, .int .i64 0, .int .i64 0]) ?_ 2 _ rfl; (with_reducible repeat (first | refine aK ?_ _ | refine aN ?_ | refine aM ?_ _)); refine bM (cs := #[.int .i64 ((rd_T27 l0 x9_1).f0), .int .i64 0, .int .i64 0, .int .i64 0, .int .i64 0]) ?_ 1 _ rfl; (with_reducible repeat (first | refine aK ?_ _ | refine aN ?_ | refine aM ?_ _)); refine bM (cs := #[.int .i64 0, .int .i64 0, .int .i64 0, .int .i64 0, .int .i64 0]) ?_ 0 _ rfl; (with_reducible repeat (first | refine aK ?_ _ | refine aN ?_ | refine aM ?_ _)); exact BK348.out) hg (Kd.R_away HO_3.out (fun _ hk => hk.2))); have n1_ := aA.mk (hb); have n2_ := aA.mk (ho); clear BK348; clear HB; clear HO_3; have BK348 := n0_; have HB := n1_; have HO351 := n2_; clear n0_ n1_ n2_; clear ho hb hg hat))
        go_roundg k1
        case measure => have := HK1.out; omega
        case rel => exact ⟨(y349), (wrap64 (x9_1 + 1)), (by first | rfl | (simp; done) | (simp [*]; done)), H', ⟨by have := HK1.out; omega⟩, ⟨by (with_reducible repeat (first | apply Kd.bA | apply Kd.aZ | apply Kd.bB)); exact Kd.bR HO351.out (fun _ hk => trivial)⟩, ⟨by repeat (first | (with_reducible first | exact HB.out | apply aE | apply aC | apply aD | refine aJ ?_ GE348.out) | exact HB.out)⟩⟩
       ·rw [if_neg c10] at H
        exact absurd H (by simp)
     ·rw [if_neg c6] at H
      exact absurd H (by simp)
    ·rw [if_neg c5] at H
     exact absurd H (by simp)
   ·rw [if_neg c4] at H
    have c4b0 : decide (x9_1 < (l0.length : Int)) = false := decide_eq_false c4
    clear c4
    obtain rfl := Option.some.inj H
    go_wp2
    go_ret
    exact ⟨_, by first | rfl | (simp [errW_none, errW_some] <;> rfl) | (simp [*, errW_none, errW_some] <;> rfl), by (with_reducible repeat (first | apply Kd.bA | apply Kd.aZ | apply Kd.bB)); exact HO_3.out, by repeat (first | (with_reducible first | exact HB.out | apply aE | apply aC | apply aD) | exact HB.out)⟩
def impl_NodeKeys.l0 : Nat → List (S27) → List (List (S27)) → Int → Int → Option ((List (S27)))
 | 0, _, _, _, _ => none
 | k + 1, x3, x8, x9, x10 => if x10 < x9 then (if 0 ≤ x10 then (if x10 < (x8.length : Int) then ((impl_MergeSets.f k x3 (rd_L2 x8 x10)).bind fun t357 => (impl_NodeKeys.l0 k t357 x8 x9 (wrap64 (x10 + 1)))) else (none)) else (none)) else ((impl_Drop.f k x3).bind fun t360 => (some t360))
def impl_NodeKeys.f (k : Nat) (l0_0 : List (List (S27))) : Option ((List (S27))) := impl_NodeKeys.l0 k (([] : List (S27))) l0_0 (l0_0.length : Int) 0
set_option maxHeartbeats 8000000 in
set_option maxRecDepth 100000 in
theorem impl_NodeKeys.calls (k : Nat) (A0_0 : Option Addr) (c0_0 : Nat) (l0_0 : List (List (S27))) (r : List (S27)) (w : World) (hr0_0 : Kd.C (Kd.slice 27 k27) w A0_0 l0_0.length l0_0) (hc0_0 : l0_0.length ≤ c0_0) (h : impl_NodeKeys.f k l0_0 = some r) :
  Calls Try.prog 31 #[.agg #[.slice A0_0 l0_0.length c0_0]] w fun e w' => ∃ v0_ : Value, e = .returned (v0_) ∧ Kd.R k27 27 w' w.heap.size (fun _ => True) v0_ r ∧ Below w.heap.size w w' := by
 have hu32 := Try.underlying32
 have HR0_0 := aA.mk hr0_0
 have HC0_0 := aA.mk hc0_0
 clear hr0_0 hc0_0
 have HB := aA.mk (Below.refl w.heap.size w)
 have H : (impl_NodeKeys.l0 k (([] : List (S27))) l0_0 (l0_0.length : Int) 0) = some r := h
 clear h
 obtain ⟨y353, hy353⟩ : ∃ y_ : List (S27), y_ = (([] : List (S27))) := ⟨_, rfl⟩
 replace H : (impl_NodeKeys.l0 k y353 l0_0 (l0_0.length : Int) 0) = some r := by first | (rw [hy353]; with_reducible exact H) | (have H2_ := (Option.bind_some _ _).symm.trans H; rw [hy353]; with_reducible exact H2_) | (have H2_ := (Option.bind_some _ _).symm.trans H; with_reducible exact H2_) | with_reducible exact H | (rw [hy353]; exact H) | exact H
 have Ny353 := aA.mk hy353
 clear hy353
 have H' := aA.mk H
 clear H
 go_enter Try.func31, Try.ntmps31
 go_wp2_with (first | ((with_reducible refine bF (N := 1) rfl ?_); refine bH ?hg (N := 1) ?hd (cs := #[.slice A0_0 l0_0.length c0_0]) (t := 32) ?hr ?_; (case hd => rfl); (case hg => rfl); (case hr => first | (go_simp; done) | (go_simp; rfl)); intro gb352 hg w2 hbox hb; have n0_ := aA.mk (aV (by repeat (first | (with_reducible first | exact HB.out | apply aE | apply aC | apply aD) | exact HB.out)) hb); have n1_ := aA.mk (hbox); have n2_ := aA.mk ((by rw [hg]; exact (aQ (by repeat (first | (with_reducible first | exact HB.out | apply aE | apply aC | apply aD) | exact HB.out))) : w.heap.size ≤ gb352)); have n3_ := aA.mk ((by rw [hg]; exact (aQ (by repeat (first | (with_reducible first | exact HB.out | apply aE | apply aC | apply aD) | exact HB.out))) : w.heap.size ≤ gb352)); clear HB; have HB := n0_; have BK352 := n1_; have GW352 := n2_; have GE352 := n3_; clear n0_ n1_ n2_ n3_; clear hb hbox hg) | ((with_reducible refine bF (N := 6) rfl ?_); refine Kd.R_lit k27 _ 27 ?hg (N := 6) ?hd (xs := ([] : List (S27))) (inner := []) (ok := fun _ => True) (okp := fun _ => True) ?hr ?hp (fun _ hk => hk) trivial (Below.refl _ _) (Nat.le_refl _) (by simp) ?_; (case hd => rfl); (case hg => rfl); (case hr => first | (go_simp; done) | (go_simp; rfl)); (case hp => exact (Reps.none _ _)); intro v354 w3 ho4 hb hg_ hnew_; clear hg_ hnew_; (first | rw [← Ny353.out] at ho4 | (simp only [Int.reduceToNat] at ho4; rw [← Ny353.out] at ho4)); have n0_ := aA.mk (Kd.R_lower ho4 (aQ (by repeat (first | (with_reducible first | exact HB.out | apply aE | apply aC | apply aD | refine aJ ?_ GE352.out) | exact HB.out)))); have n1_ := aA.mk (aY (g := gb352) (o := .cells #[.slice A0_0 l0_0.length c0_0] 32 (0, 0)) (by (with_reducible repeat (first | refine aK ?_ _ | refine aN ?_ | refine aM ?_ _)); exact BK352.out) hb); have n2_ := aA.mk (aV (by repeat (first | (with_reducible first | exact HB.out | apply aE | apply aC | apply aD | refine aJ ?_ GE352.out) | exact HB.out)) hb); clear BK352; clear HB; have HO355 := n0_; have BK352 := n1_; have HB := n2_; clear n0_ n1_ n2_; clear hb ho4; have hcz5_0 : w3.cell? ⟨gb352, 0, none⟩ = some (.slice A0_0 l0_0.length c0_0) := (aG BK352.out 0).trans rfl; have hfz5_0 := aH BK352.out 0))
 go_loopg [3, 10] k (fun kq v3 v10 w' => ∃ (x3_1 : List (S27)) (x10_1 : Int), v10 = .int .i64 x10_1 ∧ aA (impl_NodeKeys.l0 kq x3_1 l0_0 (l0_0.length : Int) x10_1 = some r) ∧ aA (kq ≤ k) ∧ aA (Kd.R k27 27 w' w.heap.size (fun _ => True) v3 x3_1) ∧ aA (w'.heap[gb352]? = some (.cells #[(.slice A0_0 l0_0.length c0_0)] 32 (0, 0))) ∧ aA (Below w.heap.size w w'))
 case atStart => exact ⟨(y353), (0), (by first | rfl | (simp; done) | (simp [*]; done)), H', ⟨Nat.le_refl _⟩, ⟨by (with_reducible repeat (first | apply Kd.bA | apply Kd.aZ | apply Kd.bB)); exact HO355.out⟩, ⟨by (with_reducible repeat (first | refine aK ?_ _ | refine aN ?_ | refine aM ?_ _)); exact BK352.out⟩, ⟨by repeat (first | (with_reducible first | exact HB.out | apply aE | apply aC | apply aD | refine aJ ?_ GE352.out) | exact HB.out)⟩⟩
 case round =>
  clear H'
  try clear p2
  try clear c3
  try clear hcz5_0
  try clear hfz5_0
  obtain ⟨x3_1, x10_1, rfl, HA, HK1, HO_3, BK352, HB⟩ := hrel
  cases gk with
  | zero => exact absurd HA.out (by simp [impl_NodeKeys.l0])
  | succ k1 =>
   have H := HA.out
   clear HA
   simp only [impl_NodeKeys.l0] at H
   by_cases c6 : x10_1 < (l0_0.length : Int)
   ·rw [if_pos c6] at H
    have c6b0 : decide (x10_1 < (l0_0.length : Int)) = true := decide_eq_true c6
    clear c6
    by_cases c7 : 0 ≤ x10_1
    ·rw [if_pos c7] at H
     have c7b0 : decide (0 ≤ x10_1) = true := decide_eq_true c7
     clear c7
     by_cases c8 : x10_1 < (l0_0.length : Int)
     ·rw [if_pos c8] at H
      have c8b0 : decide (x10_1 < (l0_0.length : Int)) = true := decide_eq_true c8
      clear c8
      replace H := lF H
      obtain ⟨t357, A90, H⟩ := H
      replace H : (impl_NodeKeys.l0 k1 t357 l0_0 (l0_0.length : Int) (wrap64 (x10_1 + 1))) = some r := H
      have A9 := aA.mk A90
      clear A90
      have H' := aA.mk H
      clear H
      have p356 : 0 ≤ (x10_1 : Int) := lE (by first | (with_reducible assumption) | assumption)
      have q356 : x10_1 < (l0_0.length : Int) := lE (by first | (with_reducible assumption) | assumption)
      obtain ⟨ad356, A356_0, c356_0, e356, hx356_0, hl356_0, hi356_0⟩ := at_L2 HR0_0.out x10_1 p356 q356
      cases e356
      replace hx356_0 := (HB.out.cell (lD w _ hx356_0)).trans hx356_0
      have HR356_0 := aA.mk hi356_0
      have HC356_0 := aA.mk hl356_0
      clear hi356_0 hl356_0
      replace p356 := eq_true p356
      replace q356 := eq_true q356
      obtain ⟨Ao10, co10, eo10⟩ := Kd.R_slice HO_3.out
      subst eo10
      go_wp2_with (first | ((with_reducible refine bC (f := 66) rfl ?_); refine bL (some 16) rfl rfl Try.func66 (by kernel_rfl) rfl #[.slice Ao10 x3_1.length co10, .slice A356_0 (rd_L2 l0_0 x10_1).length c356_0] rfl (by (try simp only [List.map_toArray, List.map_cons, List.map_nil]); first | done | rfl | (simp only [List.length_drop, List.length_take]; rfl)) ?_; (with_reducible refine (impl_MergeSets.calls k1 _ _ x3_1 _ _ (rd_L2 l0_0 x10_1) t357 _ ?side1 ?side2 ?side3 ?side4 A9.out).mono ?_); (case side1 => repeat (first | exact (Kd.R_reads' HO_3.out).2.2 | (with_reducible refine Kd.bD ?_ _) | (with_reducible refine Kd.bE ?_ _) | (with_reducible refine Kd.bK ?_))); (case side2 => exact (Kd.R_reads' HO_3.out).2.1); (case side3 => repeat (first | exact (Kd.bJ HR356_0.out HB.out) | (with_reducible refine Kd.bD ?_ _) | (with_reducible refine Kd.bE ?_ _) | (with_reducible refine Kd.bK ?_))); (case side4 => exact HC356_0.out); rintro e w11 ⟨v358, rfl, ho0, hb⟩; refine ⟨_, rfl, ?_⟩; have n0_ := aA.mk (Kd.R_elder' (by (with_reducible repeat (first | apply Kd.bA | apply Kd.aZ | apply Kd.bB)); exact HO_3.out) (Kd.R_base ho0) hb); have n1_ := aA.mk (Kd.R_lower (Kd.R_new' ho0 (Kd.R_lt (by (with_reducible repeat (first | apply Kd.bA | apply Kd.aZ | apply Kd.bB)); exact HO_3.out))) (aQ (by repeat (first | (with_reducible first | exact HB.out | apply aE | apply aC | apply aD | refine aJ ?_ GE352.out) | exact HB.out)))); have n2_ := aA.mk (aY (g := gb352) (o := .cells #[.slice (some ad356) l0_0.length c0_0] 32 (0, 0)) (by (with_reducible repeat (first | refine aK ?_ _ | refine aN ?_ | refine aM ?_ _)); exact BK352.out) hb); have n3_ := aA.mk (aV (by repeat (first | (with_reducible first | exact HB.out | apply aE | apply aC | apply aD | refine aJ ?_ GE352.out) | exact HB.out)) hb); clear HO_3; clear BK352; clear HB; have HO_3 := n0_; have HO359 := n1_; have BK352 := n2_; have HB := n3_; clear n0_ n1_ n2_ n3_; (try clear hb); (try clear ho0)))
      go_roundg k1
      case measure => have := HK1.out; omega
      case rel => exact ⟨(t357), (wrap64 (x10_1 + 1)), (by first | rfl | (simp; done) | (simp [*]; done)), H', ⟨by have := HK1.out; omega⟩, ⟨by (with_reducible repeat (first | apply Kd.bA | apply Kd.aZ | apply Kd.bB)); exact Kd.bR HO359.out (fun _ hk => trivial)⟩, ⟨by (with_reducible repeat (first | refine aK ?_ _ | refine aN ?_ | refine aM ?_ _)); exact BK352.out⟩, ⟨by repeat (first | (with_reducible first | exact HB.out | apply aE | apply aC | apply aD | refine aJ ?_ GE352.out) | exact HB.out)⟩⟩
     ·rw [if_neg c8] at H
      exact absurd H (by simp)
    ·rw [if_neg c7] at H
     exact absurd H (by simp)
   ·rw [if_neg c6] at H
    have c6b0 : decide (x10_1 < (l0_0.length : Int)) = false := decide_eq_false c6
    clear c6
    replace H := lF H
    obtain ⟨t360, A120, H⟩ := H
    replace H : (some t360) = some r := H
    have A12 := aA.mk A120
    clear A120
    obtain rfl := Option.some.inj H
    obtain ⟨Ao13, co13, eo13⟩ := Kd.R_slice HO_3.out
    subst eo13
    go_wp2_with (first | ((with_reducible refine bC (f := 67) rfl ?_); refine bL (some 19) rfl rfl Try.func67 (by kernel_rfl) rfl #[.slice Ao13 x3_1.length co13] rfl (by (try simp only [List.map_toArray, List.map_cons, List.map_nil]); first | done | rfl | (simp only [List.length_drop, List.length_take]; rfl)) ?_; (with_reducible refine (impl_Drop.calls k1 _ _ x3_1 t360 _ ?side1 ?side2 A12.out).mono ?_); (case side1 => repeat (first | exact (Kd.R_reads' HO_3.out).2.2 | (with_reducible refine Kd.bD ?_ _) | (with_reducible refine Kd.bE ?_ _) | (with_reducible refine Kd.bK ?_))); (case side2 => exact (Kd.R_reads' HO_3.out).2.1); rintro e w14 ⟨v361, rfl, ho0, hb⟩; refine ⟨_, rfl, ?_⟩; have n0_ := aA.mk (Kd.R_elder' (by (with_reducible repeat (first | apply Kd.bA | apply Kd.aZ | apply Kd.bB)); exact HO_3.out) (Kd.R_base ho0) hb); have n1_ := aA.mk (Kd.R_lower (Kd.R_new' ho0 (Kd.R_lt (by (with_reducible repeat (first | apply Kd.bA | apply Kd.aZ | apply Kd.bB)); exact HO_3.out))) (aQ (by repeat (first | (with_reducible first | exact HB.out | apply aE | apply aC | apply aD | refine aJ ?_ GE352.out) | exact HB.out)))); have n2_ := aA.mk (aY (g := gb352) (o := .cells #[.slice A0_0 l0_0.length c0_0] 32 (0, 0)) (by (with_reducible repeat (first | refine aK ?_ _ | refine aN ?_ | refine aM ?_ _)); exact BK352.out) hb); have n3_ := aA.mk (aV (by repeat (first | (with_reducible first | exact HB.out | apply aE | apply aC | apply aD | refine aJ ?_ GE352.out) | exact HB.out)) hb); clear HO_3; clear BK352; clear HB; have HO_3 := n0_; have HO362 := n1_; have BK352 := n2_; have HB := n3_; clear n0_ n1_ n2_ n3_; (try clear hb); (try clear ho0)))
    go_ret
    exact ⟨_, by first | rfl | (simp [errW_none, errW_some] <;> rfl) | (simp [*, errW_none, errW_some] <;> rfl), by (with_reducible repeat (first | apply Kd.bA | apply Kd.aZ | apply Kd.bB)); exact Kd.bR HO362.out (fun _ hk => trivial), by repeat (first | (with_reducible first | exact HB.out | apply aE | apply aC | apply aD | refine aJ ?_ GE352.out) | exact HB.out)⟩
def impl_SpotOf.f (a0 : Int) (a1 : Int) : Option (Int) := some (wrap64 ((wrap64 (64 * a0)) + a1))
set_option maxHeartbeats 8000000 in
set_option maxRecDepth 100000 in
theorem impl_SpotOf.calls (a0 : Int) (a1 : Int) (r : Int) (w : World) (h : impl_SpotOf.f a0 a1 = some r) :
  Calls Try.prog 84 #[.int .i64 a0, .int .i64 a1] w fun e w' => e = .returned (.int .i64 r) ∧ Drawn0 w w' := by
 have H : (some (wrap64 ((wrap64 (64 * a0)) + a1))) = some r := h
 clear h
 obtain rfl := Option.some.inj H
 go_enter Try.func84, Try.ntmps84
 go_wp2
 go_ret
 exact ⟨by first | rfl | (simp; done) | (simp [*]; done), by repeat (first | exact Drawn0.refl _ | apply Drawn0.step)⟩
mutual
def impl_inBounds.l0 : Nat → Int → List (List (S27)) → Int → Int → List Int → List (S32) → Option (Bool)
 | 0, _, _, _, _, _, _ => none
 | k + 1, x1, x15, x16, x17, x364000, x364001 => if x17 < x16 then (if 0 ≤ x17 then (if x17 < (x15.length : Int) then (impl_inBounds.l1 k x1 x15 x16 x17 (rd_L2 x15 x17) ((rd_L2 x15 x17).length : Int) 0 x364000 x364001) else (none)) else (none)) else (some true)
def impl_inBounds.l1 : Nat → Int → List (List (S27)) → Int → Int → List (S27) → Int → Int → List Int → List (S32) → Option (Bool)
 | 0, _, _, _, _, _, _, _, _, _ => none
 | k + 1, x1, x15, x16, x17, x21, x22, x23, x364000, x364001 => if x23 < x22 then (if 0 ≤ x23 then (if x23 < (x21.length : Int) then ((impl_SpotOf.f ((rd_T27 x21 x23).f0) ((rd_T27 x21 x23).f1)).bind fun t368 => (if 0 ≤ x1 then (if x1 < (x364000.length : Int) then (if t368 < (rd x364000 x1) then (some false) else (if (wrap64 (x1 + 1)) < (x364000.length : Int) then (if 0 ≤ (wrap64 (x1 + 1)) then (if t368 ≥ (rd x364000 (wrap64 (x1 + 1))) then (some false) else (impl_inBounds.l1 k x1 x15 x16 x17 x21 x22 (wrap64 (x23 + 1)) x364000 x364001)) else (none)) else (impl_inBounds.l1 k x1 x15 x16 x17 x21 x22 (wrap64 (x23 + 1)) x364000 x364001))) else (none)) else (none))) else (none)) else (none)) else (impl_inBounds.l0 k x1 x15 x16 (wrap64 (x17 + 1)) x364000 x364001)
end
def impl_inBounds.f (k : Nat) (l0_0 : List Int) (l0_1 : List (S32)) (a1 : Int) : Option (Bool) := if 0 ≤ a1 then (if a1 < (l0_1.length : Int) then (impl_inBounds.l0 k a1 ((rd_T32 l0_1 a1).f0) (((rd_T32 l0_1 a1).f0).length : Int) 0 l0_0 l0_1) else (none)) else (none)
set_option maxHeartbeats 8000000 in
set_option maxRecDepth 100000 in
theorem impl_inBounds.calls (k : Nat) (A0_0 : Option Addr) (c0_0 : Nat) (l0_0 : List Int) (A0_1 : Option Addr) (c0_1 : Nat) (l0_1 : List (S32)) (a1 : Int) (r : Bool) (w : World) (hr0_0 : Kd.C (Kd.int .i64) w A0_0 l0_0.length l0_0) (hc0_0 : l0_0.length ≤ c0_0) (hr0_1 : Kd.C k32 w A0_1 l0_1.length l0_1) (hc0_1 : l0_1.length ≤ c0_1) (h : impl_inBounds.f k l0_0 l0_1 a1 = some r) :
  Calls Try.prog 88 #[.agg #[.slice A0_0 l0_0.length c0_0, .slice A0_1 l0_1.length c0_1], .int .i64 a1] w fun e w' => e = .returned (.bool r) ∧ Below w.heap.size w w' := by
 have hu58 := Try.underlying58
 have hu27 := Try.underlying27
 have HR0_0 := aA.mk hr0_0
 have HC0_0 := aA.mk hc0_0
 clear hr0_0 hc0_0
 have HR0_1 := aA.mk hr0_1
 have HC0_1 := aA.mk hc0_1
 clear hr0_1 hc0_1
 have HB := aA.mk (Below.refl w.heap.size w)
 have H : (if 0 ≤ a1 then (if a1 < (l0_1.length : Int) then (impl_inBounds.l0 k a1 ((rd_T32 l0_1 a1).f0) (((rd_T32 l0_1 a1).f0).length : Int) 0 l0_0 l0_1) else (none)) else (none)) = some r := h
 clear h
 by_cases c3 : 0 ≤ a1
 ·rw [if_pos c3] at H
  have c3b0 : decide (0 ≤ a1) = true := decide_eq_true c3
  clear c3
  by_cases c4 : a1 < (l0_1.length : Int)
  ·rw [if_pos c4] at H
   have c4b0 : decide (a1 < (l0_1.length : Int)) = true := decide_eq_true c4
   clear c4
   have H' := aA.mk H
   clear H
   go_enter Try.func88, Try.ntmps88
   go_wp2_with (first | ((with_reducible refine bF (N := 2) rfl ?_); (try (refine gate_guard (by rfl) ?_; dsimp only)); refine bH ?hg (N := 2) ?hd (cs := #[.slice A0_0 l0_0.length c0_0, .slice A0_1 l0_1.length c0_1]) (t := 58) ?hr ?_; (case hd => rfl); (case hg => rfl); (case hr => first | (go_simp; done) | (go_simp; rfl)); intro gb363 hg w5 hbox hb; have n0_ := aA.mk (aV (by repeat (first | (with_reducible first | exact HB.out | apply aE | apply aC | apply aD) | exact HB.out)) hb); have n1_ := aA.mk (hbox); have n2_ := aA.mk ((by rw [hg]; exact (aQ (by repeat (first | (with_reducible first | exact HB.out | apply aE | apply aC | apply aD) | exact HB.out))) : w.heap.size ≤ gb363)); have n3_ := aA.mk ((by rw [hg]; exact (aQ (by repeat (first | (with_reducible first | exact HB.out | apply aE | apply aC | apply aD) | exact HB.out))) : w.heap.size ≤ gb363)); clear HB; have HB := n0_; have BK363 := n1_; have GW363 := n2_; have GE363 := n3_; clear n0_ n1_ n2_ n3_; clear hb hbox hg; have hcz6_0 : w5.cell? ⟨gb363, 0, none⟩ = some (.slice A0_0 l0_0.length c0_0) := (aG BK363.out 0).trans rfl; have hcz6_1 : w5.cell? ⟨gb363, 1, none⟩ = some (.slice A0_1 l0_1.length c0_1) := (aG BK363.out 1).trans rfl; have hfz6_0 := aH BK363.out 0; have hfz6_1 := aH BK363.out 1; have p364 : 0 ≤ (a1 : Int) := lE (by first | (with_reducible assumption) | assumption); have q364 : a1 < (l0_1.length : Int) := lE (by first | (with_reducible assumption) | assumption); obtain ⟨ad364, A364_0, c364_0, e364, hx364_0, hl364_0, hi364_0⟩ := at_T32 HR0_1.out a1 p364 q364; cases e364; replace hx364_0 := (HB.out.cell (lD w _ hx364_0)).trans hx364_0; have HR364_0 := aA.mk hi364_0; have HC364_0 := aA.mk hl364_0; clear hi364_0 hl364_0; replace p364 := eq_true p364; replace q364 := eq_true q364))
   go_loopg [17] k (fun kq v17 w' => ∃ (x17_1 : Int), v17 = .int .i64 x17_1 ∧ aA (impl_inBounds.l0 kq a1 ((rd_T32 l0_1 a1).f0) (((rd_T32 l0_1 a1).f0).length : Int) x17_1 l0_0 l0_1 = some r) ∧ aA (kq ≤ k) ∧ aA (w'.heap[gb363]? = some (.cells #[(.slice A0_0 l0_0.length c0_0), (.slice (some ad364) l0_1.length c0_1)] 58 (0, 0))) ∧ aA (Below w.heap.size w w'))
   case atStart => exact ⟨(0), (by first | rfl | (simp; done) | (simp [*]; done)), H', ⟨Nat.le_refl _⟩, ⟨by (with_reducible repeat (first | refine aK ?_ _ | refine aN ?_ | refine aM ?_ _)); exact BK363.out⟩, ⟨by repeat (first | (with_reducible first | exact HB.out | apply aE | apply aC | apply aD | refine aJ ?_ GE363.out) | exact HB.out)⟩⟩
   case round =>
    clear H'
    try clear p2
    try clear c3
    try clear c3b0
    try clear p3
    try clear q3
    try clear hx3
    try clear c4
    try clear c4b0
    try clear hcz6_0
    try clear hcz6_1
    try clear hfz6_0
    try clear hfz6_1
    try clear hx364_0
    try clear p364
    try clear q364
    obtain ⟨x17_1, rfl, HA, HK1, BK363, HB⟩ := hrel
    cases gk with
    | zero => exact absurd HA.out (by simp [impl_inBounds.l0])
    | succ k1 =>
     have H := HA.out
     clear HA
     simp only [impl_inBounds.l0] at H
     by_cases c7 : x17_1 < (((rd_T32 l0_1 a1).f0).length : Int)
     ·rw [if_pos c7] at H
      have c7b0 : decide (x17_1 < (((rd_T32 l0_1 a1).f0).length : Int)) = true := decide_eq_true c7
      clear c7
      by_cases c8 : 0 ≤ x17_1
      ·rw [if_pos c8] at H
       have c8b0 : decide (0 ≤ x17_1) = true := decide_eq_true c8
       clear c8
       by_cases c9 : x17_1 < (((rd_T32 l0_1 a1).f0).length : Int)
       ·rw [if_pos c9] at H
        have c9b0 : decide (x17_1 < (((rd_T32 l0_1 a1).f0).length : Int)) = true := decide_eq_true c9
        clear c9
        have H' := aA.mk H
        clear H
        have p365 : 0 ≤ (x17_1 : Int) := lE (by first | (with_reducible assumption) | assumption)
        have q365 : x17_1 < (((rd_T32 l0_1 a1).f0).length : Int) := lE (by first | (with_reducible assumption) | assumption)
        obtain ⟨ad365, A365_0, c365_0, e365, hx365_0, hl365_0, hi365_0⟩ := at_L2 HR364_0.out x17_1 p365 q365
        cases e365
        replace hx365_0 := (HB.out.cell (lD w _ hx365_0)).trans hx365_0
        have HR365_0 := aA.mk hi365_0
        have HC365_0 := aA.mk hl365_0
        clear hi365_0 hl365_0
        replace p365 := eq_true p365
        replace q365 := eq_true q365
        go_wp2
        go_loopg [23] k1 (fun kq v23 w' => ∃ (x23_2 : Int), v23 = .int .i64 x23_2 ∧ aA (impl_inBounds.l1 kq a1 ((rd_T32 l0_1 a1).f0) (((rd_T32 l0_1 a1).f0).length : Int) x17_1 (rd_L2 ((rd_T32 l0_1 a1).f0) x17_1) ((rd_L2 ((rd_T32 l0_1 a1).f0) x17_1).length : Int) x23_2 l0_0 l0_1 = some r) ∧ aA (kq ≤ k1) ∧ aA (w'.heap[gb363]? = some (.cells #[(.slice A0_0 l0_0.length c0_0), (.slice (some ad364) l0_1.length c0_1)] 58 (0, 0))) ∧ aA (Below w.heap.size w w'))
        case atStart => exact ⟨(0), (by first | rfl | (simp; done) | (simp [*]; done)), H', ⟨Nat.le_refl _⟩, ⟨by (with_reducible repeat (first | refine aK ?_ _ | refine aN ?_ | refine aM ?_ _)); exact BK363.out⟩, ⟨by repeat (first | (with_reducible first | exact HB.out | apply aE | apply aC | apply aD | refine aJ ?_ GE363.out) | exact HB.out)⟩⟩
        case round =>
         clear H'
         try clear p2
         try clear c3
         try clear c3b0
         try clear p3
         try clear q3
         try clear hx3
         try clear c4
         try clear c4b0
         try clear c7
         try clear c7b0
         try clear c8
         try clear c8b0
         try clear c9
         try clear c9b0
         try clear hcz6_0
         try clear hcz6_1
         try clear hfz6_0
         try clear hfz6_1
         try clear hx364_0
         try clear hx365_0
         try clear p2
         try clear p3
         try clear p364
         try clear p365
         try clear q3
         try clear q364
         try clear q365
         obtain ⟨x23_2, rfl, HA, HK2, BK363, HB⟩ := hrel
         cases gk with
         | zero => exact absurd HA.out (by simp [impl_inBounds.l1])
         | succ k2 =>
          have H := HA.out
          clear HA
          simp only [impl_inBounds.l1] at H
          by_cases c10 : x23_2 < ((rd_L2 ((rd_T32 l0_1 a1).f0) x17_1).length : Int)
          ·rw [if_pos c10] at H
           have c10b0 : decide (x23_2 < ((rd_L2 ((rd_T32 l0_1 a1).f0) x17_1).length : Int)) = true := decide_eq_true c10
           clear c10
           by_cases c11 : 0 ≤ x23_2
           ·rw [if_pos c11] at H
            have c11b0 : decide (0 ≤ x23_2) = true := decide_eq_true c11
            clear c11
            by_cases c12 : x23_2 < ((rd_L2 ((rd_T32 l0_1 a1).f0) x17_1).length : Int)
            ·rw [if_pos c12] at H
             have c12b0 : decide (x23_2 < ((rd_L2 ((rd_T32 l0_1 a1).f0) x17_1).length : Int)) = true := decide_eq_true c12
             clear c12
             replace H := lF H
             obtain ⟨t368, A130, H⟩ := H
             replace H : (if 0 ≤ a1 then (if a1 < (l0_0.length : Int) then (if t368 < (rd l0_0 a1) then (some false) else (if (wrap64 (a1 + 1)) < (l0_0.length : Int) then (if 0 ≤ (wrap64 (a1 + 1)) then (if t368 ≥ (rd l0_0 (wrap64 (a1 + 1))) then (some false) else (impl_inBounds.l1 k2 a1 ((rd_T32 l0_1 a1).f0) (((rd_T32 l0_1 a1).f0).length : Int) x17_1 (rd_L2 ((rd_T32 l0_1 a1).f0) x17_1) ((rd_L2 ((rd_T32 l0_1 a1).f0) x17_1).length : Int) (wrap64 (x23_2 + 1)) l0_0 l0_1)) else (none)) else (impl_inBounds.l1 k2 a1 ((rd_T32 l0_1 a1).f0) (((rd_T32 l0_1 a1).f0).length : Int) x17_1 (rd_L2 ((rd_T32 l0_1 a1).f0) x17_1) ((rd_L2 ((rd_T32 l0_1 a1).f0) x17_1).length : Int) (wrap64 (x23_2 + 1)) l0_0 l0_1))) else (none)) else (none)) = some r := H
             have A13 := aA.mk A130
             clear A130
             by_cases c14 : 0 ≤ a1
             ·rw [if_pos c14] at H
              have c14b0 : decide (0 ≤ a1) = true := decide_eq_true c14
              clear c14
              by_cases c15 : a1 < (l0_0.length : Int)
              ·rw [if_pos c15] at H
               have c15b0 : decide (a1 < (l0_0.length : Int)) = true := decide_eq_true c15
               clear c15
               by_cases c16 : t368 < (rd l0_0 a1)
               ·rw [if_pos c16] at H
                have c16b0 : decide (t368 < (rd l0_0 a1)) = true := decide_eq_true c16
                clear c16
                obtain rfl := Option.some.inj H
                have p366 : 0 ≤ (x23_2 : Int) := lE (by first | (with_reducible assumption) | assumption)
                have q366 : x23_2 < ((rd_L2 ((rd_T32 l0_1 a1).f0) x17_1).length : Int) := lE (by first | (with_reducible assumption) | assumption)
                obtain ⟨ad366, e366, hx366_0, hx366_1, hx366_2, hx366_3, hx366_4⟩ := at_T27 HR365_0.out x23_2 p366 q366
                cases e366
                replace hx366_0 := (HB.out.cell (lD w _ hx366_0)).trans hx366_0
                replace hx366_1 := (HB.out.cell (lD w _ hx366_1)).trans hx366_1
                replace hx366_2 := (HB.out.cell (lD w _ hx366_2)).trans hx366_2
                replace hx366_3 := (HB.out.cell (lD w _ hx366_3)).trans hx366_3
                replace hx366_4 := (HB.out.cell (lD w _ hx366_4)).trans hx366_4
                replace p366 := eq_true p366
                replace q366 := eq_true q366
                go_wp2_with (first | ((with_reducible refine bF (N := 8) rfl ?_); (try (refine gate_guard (by rfl) ?_; dsimp only)); refine bH ?hg (N := 8) ?hd (cs := #[.int .i64 0, .int .i64 0, .int .i64 0, .int .i64 0, .int .i64 0]) (t := 27) ?hr ?_; (case hd => rfl); (case hg => rfl); (case hr => first | (go_simp; done) | (go_simp; rfl)); intro gb367 hg w17 hbox hb; have n0_ := aA.mk (aY (g := gb363) (o := .cells #[.slice A0_0 l0_0.length c0_0, .slice (some ad364) l0_1.length c0_1] 58 (0, 0)) (by (with_reducible repeat (first | refine aK ?_ _ | refine aN ?_ | refine aM ?_ _)); exact BK363.out) hb); have n1_ := aA.mk (aV (by repeat (first | (with_reducible first | exact HB.out | apply aE | apply aC | apply aD | refine aJ ?_ GE363.out) | exact HB.out)) hb); have n2_ := aA.mk (hbox); have n3_ := aA.mk ((by rw [hg]; exact (aQ (by repeat (first | (with_reducible first | exact HB.out | apply aE | apply aC | apply aD | refine aJ ?_ GE363.out) | exact HB.out))) : w.heap.size ≤ gb367)); have n4_ := aA.mk ((by rw [hg]; exact (aQ (by repeat (first | (with_reducible first | exact HB.out | apply aE | apply aC | apply aD | refine aJ ?_ GE363.out) | exact HB.out))) : w.heap.size ≤ gb367)); have n5_ := aA.mk ((by rw [hg]; exact Nat.ne_of_lt (bN (g := gb363) (o := .cells #[.slice A0_0 l0_0.length c0_0, .slice (some ad364) l0_1.length c0_1] 58 (0, 0)) (by (with_reducible repeat (first | refine aK ?_ _ | refine aN ?_ | refine aM ?_ _)); exact BK363.out)) : gb363 ≠ gb367)); have n6_ := aA.mk ((by rw [hg]; exact Nat.ne_of_gt (bN (g := gb363) (o := .cells #[.slice A0_0 l0_0.length c0_0, .slice (some ad364) l0_1.length c0_1] 58 (0, 0)) (by (with_reducible repeat (first | refine aK ?_ _ | refine aN ?_ | refine aM ?_ _)); exact BK363.out)) : gb367 ≠ gb363)); clear BK363; clear HB; have BK363 := n0_; have HB := n1_; have BK367 := n2_; have GW367 := n3_; have GE367 := n4_; have NB363_367 := n5_; have NB367_363 := n6_; clear n0_ n1_ n2_ n3_ n4_ n5_ n6_; clear hb hbox hg; have hnb18 := NB367_363.out; have hnc18 := NB363_367.out; have hcz19_0 : w17.cell? ⟨gb367, 0, none⟩ = some (.int .i64 0) := (aG BK367.out 0).trans rfl; have hcz19_1 : w17.cell? ⟨gb367, 1, none⟩ = some (.int .i64 0) := (aG BK367.out 1).trans rfl; have hcz19_2 : w17.cell? ⟨gb367, 2, none⟩ = some (.int .i64 0) := (aG BK367.out 2).trans rfl; have hcz19_3 : w17.cell? ⟨gb367, 3, none⟩ = some (.int .i64 0) := (aG BK367.out 3).trans rfl; have hcz19_4 : w17.cell? ⟨gb367, 4, none⟩ = some (.int .i64 0) := (aG BK367.out 4).trans rfl; have hfz19_0 := aH BK367.out 0; have hfz19_1 := aH BK367.out 1; have hfz19_2 := aH BK367.out 2; have hfz19_3 := aH BK367.out 3; have hfz19_4 := aH BK367.out 4) | ((with_reducible refine bC (f := 84) rfl ?_); refine bL (some 31) rfl rfl Try.func84 (by kernel_rfl) rfl #[.int .i64 ((rd_T27 (rd_L2 ((rd_T32 l0_1 a1).f0) x17_1) x23_2).f0), .int .i64 ((rd_T27 (rd_L2 ((rd_T32 l0_1 a1).f0) x17_1) x23_2).f1)] rfl (by (try simp only [List.map_toArray, List.map_cons, List.map_nil]); first | done | rfl | (simp only [List.length_drop, List.length_take]; rfl)) ?_; (with_reducible refine (impl_SpotOf.calls ((rd_T27 (rd_L2 ((rd_T32 l0_1 a1).f0) x17_1) x23_2).f0) ((rd_T27 (rd_L2 ((rd_T32 l0_1 a1).f0) x17_1) x23_2).f1) t368 _ A13.out).mono ?_); rintro e w' ⟨rfl, ⟨nd, rfl⟩⟩; refine ⟨_, rfl, ?_⟩; have hcz20_0 : w17.cell? ⟨gb363, 0, none⟩ = some (.slice A0_0 l0_0.length c0_0) := (aG BK363.out 0).trans rfl; have hcz20_1 : w17.cell? ⟨gb363, 1, none⟩ = some (.slice (some ad364) l0_1.length c0_1) := (aG BK363.out 1).trans rfl; have hfz20_0 := aH BK363.out 0; have hfz20_1 := aH BK363.out 1; have p369 : 0 ≤ (a1 : Int) := lE (by first | (with_reducible assumption) | assumption); have q369 : a1 < (l0_0.length : Int) := lE (by first | (with_reducible assumption) | assumption); obtain ⟨ad369, e369, hx369_0⟩ := Kd.at_int HR0_0.out a1 p369 q369; cases e369; have hn369_0 : ad369.block ≠ gb367 := Nat.ne_of_lt (Nat.lt_of_lt_of_le (by have := lD _ _ hx369_0; first | rwa [bG] at this | exact this) GW367.out); have hn369_1 : ad369.block ≠ gb367 := Nat.ne_of_lt (Nat.lt_of_lt_of_le (by have := lD _ _ hx369_0; first | rwa [bG] at this | exact this) GW367.out); have hn369_2 : ad369.block ≠ gb367 := Nat.ne_of_lt (Nat.lt_of_lt_of_le (by have := lD _ _ hx369_0; first | rwa [bG] at this | exact this) GW367.out); have hn369_3 : ad369.block ≠ gb367 := Nat.ne_of_lt (Nat.lt_of_lt_of_le (by have := lD _ _ hx369_0; first | rwa [bG] at this | exact this) GW367.out); have hn369_4 : ad369.block ≠ gb367 := Nat.ne_of_lt (Nat.lt_of_lt_of_le (by have := lD _ _ hx369_0; first | rwa [bG] at this | exact this) GW367.out); replace hx369_0 := (HB.out.cell (lD w _ hx369_0)).trans hx369_0; replace hx369_0 := (cell_far (p := ⟨gb367, 0, none⟩) (by first | (rw [bG]; exact hn369_0) | (show (Addr.add _ _).block ≠ _; rw [bG]; exact hn369_0) | exact hn369_0) (.int .i64 ((rd_T27 (rd_L2 ((rd_T32 l0_1 a1).f0) x17_1) x23_2).f0))).trans hx369_0; replace hx369_0 := (cell_far (p := ⟨gb367, 1, none⟩) (by first | (rw [bG]; exact hn369_1) | (show (Addr.add _ _).block ≠ _; rw [bG]; exact hn369_1) | exact hn369_1) (.int .i64 ((rd_T27 (rd_L2 ((rd_T32 l0_1 a1).f0) x17_1) x23_2).f1))).trans hx369_0; replace hx369_0 := (cell_far (p := ⟨gb367, 2, none⟩) (by first | (rw [bG]; exact hn369_2) | (show (Addr.add _ _).block ≠ _; rw [bG]; exact hn369_2) | exact hn369_2) (.int .i64 ((rd_T27 (rd_L2 ((rd_T32 l0_1 a1).f0) x17_1) x23_2).f2))).trans hx369_0; replace hx369_0 := (cell_far (p := ⟨gb367, 3, none⟩) (by first | (rw [bG]; exact hn369_3) | (show (Addr.add _ _).block ≠ _; rw [bG]; exact hn369_3) | exact hn369_3) (.int .i64 ((rd_T27 (rd_L2 ((rd_T32 l0_1 a1).f0) x17_1) x23_2).f3))).trans hx369_0; replace hx369_0 := (cell_far (p := ⟨gb367, 4, none⟩) (by first | (rw [bG]; exact hn369_4) | (show (Addr.add _ _).block ≠ _; rw [bG]; exact hn369_4) | exact hn369_4) (.int .i64 ((rd_T27 (rd_L2 ((rd_T32 l0_1 a1).f0) x17_1) x23_2).f4))).trans hx369_0; clear hn369_0; clear hn369_1; clear hn369_2; clear hn369_3; clear hn369_4; replace p369 := eq_true p369; replace q369 := eq_true q369))
                go_ret
                exact ⟨by first | rfl | (simp [errW_none, errW_some] <;> rfl) | (simp [*, errW_none, errW_some] <;> rfl), by repeat (first | (with_reducible first | exact HB.out | apply aE | apply aC | apply aD | refine aJ ?_ GE363.out | refine aJ ?_ GE367.out) | exact HB.out)⟩
               ·rw [if_neg c16] at H
                have c16b0 : decide (t368 < (rd l0_0 a1)) = false := decide_eq_false c16
                clear c16
                by_cases c21 : (wrap64 (a1 + 1)) < (l0_0.length : Int)
                ·rw [if_pos c21] at H
                 have c21b0 : decide ((wrap64 (a1 + 1)) < (l0_0.length : Int)) = true := decide_eq_true c21
                 clear c21
                 obtain ⟨ji22, hji22⟩ : ∃ j_ : Int, (wrap64 (a1 + 1)) = j_ := ⟨_, rfl⟩
                 replace H : (if 0 ≤ (ji22) then (if t368 ≥ (rd l0_0 (ji22)) then (some false) else (impl_inBounds.l1 k2 a1 ((rd_T32 l0_1 a1).f0) (((rd_T32 l0_1 a1).f0).length : Int) x17_1 (rd_L2 ((rd_T32 l0_1 a1).f0) x17_1) ((rd_L2 ((rd_T32 l0_1 a1).f0) x17_1).length : Int) (wrap64 (x23_2 + 1)) l0_0 l0_1)) else (none)) = some r := by first | (rw [hji22] at H; exact H) | (simp only [hji22] at H ⊢; exact H)
                 (try rw [hji22] at c21b0)
                 (try rw [hji22] at A13)
                 have hji22w : (IntKind.i64.wrap (a1 + 1)) = ji22 := (aT _).trans hji22
                 by_cases c23 : 0 ≤ (ji22)
                 ·rw [if_pos c23] at H
                  have c23b0 : decide (0 ≤ (ji22)) = true := decide_eq_true c23
                  clear c23
                  by_cases c24 : t368 ≥ (rd l0_0 (ji22))
                  ·rw [if_pos c24] at H
                   have c24b0 : decide ((rd l0_0 (ji22)) ≤ t368) = true := decide_eq_true c24
                   clear c24
                   obtain rfl := Option.some.inj H
                   have p366 : 0 ≤ (x23_2 : Int) := lE (by first | (with_reducible assumption) | assumption)
                   have q366 : x23_2 < ((rd_L2 ((rd_T32 l0_1 a1).f0) x17_1).length : Int) := lE (by first | (with_reducible assumption) | assumption)
                   obtain ⟨ad366, e366, hx366_0, hx366_1, hx366_2, hx366_3, hx366_4⟩ := at_T27 HR365_0.out x23_2 p366 q366
                   cases e366
                   replace hx366_0 := (HB.out.cell (lD w _ hx366_0)).trans hx366_0
                   replace hx366_1 := (HB.out.cell (lD w _ hx366_1)).trans hx366_1
                   replace hx366_2 := (HB.out.cell (lD w _ hx366_2)).trans hx366_2
                   replace hx366_3 := (HB.out.cell (lD w _ hx366_3)).trans hx366_3
                   replace hx366_4 := (HB.out.cell (lD w _ hx366_4)).trans hx366_4
                   replace p366 := eq_true p366
                   replace q366 := eq_true q366
                   go_wp2_with (first | ((with_reducible refine bF (N := 8) rfl ?_); (try (refine gate_guard (by rfl) ?_; dsimp only)); refine bH ?hg (N := 8) ?hd (cs := #[.int .i64 0, .int .i64 0, .int .i64 0, .int .i64 0, .int .i64 0]) (t := 27) ?hr ?_; (case hd => rfl); (case hg => rfl); (case hr => first | (go_simp; done) | (go_simp; rfl)); intro gb367 hg w25 hbox hb; have n0_ := aA.mk (aY (g := gb363) (o := .cells #[.slice A0_0 l0_0.length c0_0, .slice (some ad364) l0_1.length c0_1] 58 (0, 0)) (by (with_reducible repeat (first | refine aK ?_ _ | refine aN ?_ | refine aM ?_ _)); exact BK363.out) hb); have n1_ := aA.mk (aV (by repeat (first | (with_reducible first | exact HB.out | apply aE | apply aC | apply aD | refine aJ ?_ GE363.out) | exact HB.out)) hb); have n2_ := aA.mk (hbox); have n3_ := aA.mk ((by rw [hg]; exact (aQ (by repeat (first | (with_reducible first | exact HB.out | apply aE | apply aC | apply aD | refine aJ ?_ GE363.out) | exact HB.out))) : w.heap.size ≤ gb367)); have n4_ := aA.mk ((by rw [hg]; exact (aQ (by repeat (first | (with_reducible first | exact HB.out | apply aE | apply aC | apply aD | refine aJ ?_ GE363.out) | exact HB.out))) : w.heap.size ≤ gb367)); have n5_ := aA.mk ((by rw [hg]; exact Nat.ne_of_lt (bN (g := gb363) (o := .cells #[.slice A0_0 l0_0.length c0_0, .slice (some ad364) l0_1.length c0_1] 58 (0, 0)) (by (with_reducible repeat (first | refine aK ?_ _ | refine aN ?_ | refine aM ?_ _)); exact BK363.out)) : gb363 ≠ gb367)); have n6_ := aA.mk ((by rw [hg]; exact Nat.ne_of_gt (bN (g := gb363) (o := .cells #[.slice A0_0 l0_0.length c0_0, .slice (some ad364) l0_1.length c0_1] 58 (0, 0)) (by (with_reducible repeat (first | refine aK ?_ _ | refine aN ?_ | refine aM ?_ _)); exact BK363.out)) : gb367 ≠ gb363)); clear BK363; clear HB; have BK363 := n0_; have HB := n1_; have BK367 := n2_; have GW367 := n3_; have GE367 := n4_; have NB363_367 := n5_; have NB367_363 := n6_; clear n0_ n1_ n2_ n3_ n4_ n5_ n6_; clear hb hbox hg; have hnb26 := NB367_363.out; have hnc26 := NB363_367.out; have hcz27_0 : w25.cell? ⟨gb367, 0, none⟩ = some (.int .i64 0) := (aG BK367.out 0).trans rfl; have hcz27_1 : w25.cell? ⟨gb367, 1, none⟩ = some (.int .i64 0) := (aG BK367.out 1).trans rfl; have hcz27_2 : w25.cell? ⟨gb367, 2, none⟩ = some (.int .i64 0) := (aG BK367.out 2).trans rfl; have hcz27_3 : w25.cell? ⟨gb367, 3, none⟩ = some (.int .i64 0) := (aG BK367.out 3).trans rfl; have hcz27_4 : w25.cell? ⟨gb367, 4, none⟩ = some (.int .i64 0) := (aG BK367.out 4).trans rfl; have hfz27_0 := aH BK367.out 0; have hfz27_1 := aH BK367.out 1; have hfz27_2 := aH BK367.out 2; have hfz27_3 := aH BK367.out 3; have hfz27_4 := aH BK367.out 4) | ((with_reducible refine bC (f := 84) rfl ?_); refine bL (some 31) rfl rfl Try.func84 (by kernel_rfl) rfl #[.int .i64 ((rd_T27 (rd_L2 ((rd_T32 l0_1 a1).f0) x17_1) x23_2).f0), .int .i64 ((rd_T27 (rd_L2 ((rd_T32 l0_1 a1).f0) x17_1) x23_2).f1)] rfl (by (try simp only [List.map_toArray, List.map_cons, List.map_nil]); first | done | rfl | (simp only [List.length_drop, List.length_take]; rfl)) ?_; (with_reducible refine (impl_SpotOf.calls ((rd_T27 (rd_L2 ((rd_T32 l0_1 a1).f0) x17_1) x23_2).f0) ((rd_T27 (rd_L2 ((rd_T32 l0_1 a1).f0) x17_1) x23_2).f1) t368 _ A13.out).mono ?_); rintro e w' ⟨rfl, ⟨nd, rfl⟩⟩; refine ⟨_, rfl, ?_⟩; have hcz28_0 : w25.cell? ⟨gb363, 0, none⟩ = some (.slice A0_0 l0_0.length c0_0) := (aG BK363.out 0).trans rfl; have hcz28_1 : w25.cell? ⟨gb363, 1, none⟩ = some (.slice (some ad364) l0_1.length c0_1) := (aG BK363.out 1).trans rfl; have hfz28_0 := aH BK363.out 0; have hfz28_1 := aH BK363.out 1; have p369 : 0 ≤ (a1 : Int) := lE (by first | (with_reducible assumption) | assumption); have q369 : a1 < (l0_0.length : Int) := lE (by first | (with_reducible assumption) | assumption); obtain ⟨ad369, e369, hx369_0⟩ := Kd.at_int HR0_0.out a1 p369 q369; cases e369; have hn369_0 : ad369.block ≠ gb367 := Nat.ne_of_lt (Nat.lt_of_lt_of_le (by have := lD _ _ hx369_0; first | rwa [bG] at this | exact this) GW367.out); have hn369_1 : ad369.block ≠ gb367 := Nat.ne_of_lt (Nat.lt_of_lt_of_le (by have := lD _ _ hx369_0; first | rwa [bG] at this | exact this) GW367.out); have hn369_2 : ad369.block ≠ gb367 := Nat.ne_of_lt (Nat.lt_of_lt_of_le (by have := lD _ _ hx369_0; first | rwa [bG] at this | exact this) GW367.out); have hn369_3 : ad369.block ≠ gb367 := Nat.ne_of_lt (Nat.lt_of_lt_of_le (by have := lD _ _ hx369_0; first | rwa [bG] at this | exact this) GW367.out); have hn369_4 : ad369.block ≠ gb367 := Nat.ne_of_lt (Nat.lt_of_lt_of_le (by have := lD _ _ hx369_0; first | rwa [bG] at this | exact this) GW367.out); replace hx369_0 := (HB.out.cell (lD w _ hx369_0)).trans hx369_0; replace hx369_0 := (cell_far (p := ⟨gb367, 0, none⟩) (by first | (rw [bG]; exact hn369_0) | (show (Addr.add _ _).block ≠ _; rw [bG]; exact hn369_0) | exact hn369_0) (.int .i64 ((rd_T27 (rd_L2 ((rd_T32 l0_1 a1).f0) x17_1) x23_2).f0))).trans hx369_0; replace hx369_0 := (cell_far (p := ⟨gb367, 1, none⟩) (by first | (rw [bG]; exact hn369_1) | (show (Addr.add _ _).block ≠ _; rw [bG]; exact hn369_1) | exact hn369_1) (.int .i64 ((rd_T27 (rd_L2 ((rd_T32 l0_1 a1).f0) x17_1) x23_2).f1))).trans hx369_0; replace hx369_0 := (cell_far (p := ⟨gb367, 2, none⟩) (by first | (rw [bG]; exact hn369_2) | (show (Addr.add _ _).block ≠ _; rw [bG]; exact hn369_2) | exact hn369_2) (.int .i64 ((rd_T27 (rd_L2 ((rd_T32 l0_1 a1).f0) x17_1) x23_2).f2))).trans hx369_0; replace hx369_0 := (cell_far (p := ⟨gb367, 3, none⟩) (by first | (rw [bG]; exact hn369_3) | (show (Addr.add _ _).block ≠ _; rw [bG]; exact hn369_3) | exact hn369_3) (.int .i64 ((rd_T27 (rd_L2 ((rd_T32 l0_1 a1).f0) x17_1) x23_2).f3))).trans hx369_0; replace hx369_0 := (cell_far (p := ⟨gb367, 4, none⟩) (by first | (rw [bG]; exact hn369_4) | (show (Addr.add _ _).block ≠ _; rw [bG]; exact hn369_4) | exact hn369_4) (.int .i64 ((rd_T27 (rd_L2 ((rd_T32 l0_1 a1).f0) x17_1) x23_2).f4))).trans hx369_0; clear hn369_0; clear hn369_1; clear hn369_2; clear hn369_3; clear hn369_4; replace p369 := eq_true p369; replace q369 := eq_true q369; have p370 : 0 ≤ ((ji22) : Int) := lE (by first | (with_reducible assumption) | assumption); have q370 : (ji22) < (l0_0.length : Int) := lE (by first | (with_reducible assumption) | assumption); obtain ⟨ad370, e370, hx370_0⟩ := Kd.at_int HR0_0.out (ji22) p370 q370; obtain rfl : ad369 = ad370 := (by injection e370); have hn370_0 : ad369.block ≠ gb367 := Nat.ne_of_lt (Nat.lt_of_lt_of_le (by have := lD _ _ hx370_0; first | rwa [bG] at this | exact this) GW367.out); have hn370_1 : ad369.block ≠ gb367 := Nat.ne_of_lt (Nat.lt_of_lt_of_le (by have := lD _ _ hx370_0; first | rwa [bG] at this | exact this) GW367.out); have hn370_2 : ad369.block ≠ gb367 := Nat.ne_of_lt (Nat.lt_of_lt_of_le (by have := lD _ _ hx370_0; first | rwa [bG] at this | exact this) GW367.out); have hn370_3 : ad369.block ≠ gb367 := Nat.ne_of_lt (Nat.lt_of_lt_of_le (by have := lD _ _ hx370_0; first | rwa [bG] at this | exact this) GW367.out); have hn370_4 : ad369.block ≠ gb367 := Nat.ne_of_lt (Nat.lt_of_lt_of_le (by have := lD _ _ hx370_0; first | rwa [bG] at this | exact this) GW367.out); replace hx370_0 := (HB.out.cell (lD w _ hx370_0)).trans hx370_0; replace hx370_0 := (cell_far (p := ⟨gb367, 0, none⟩) (by first | (rw [bG]; exact hn370_0) | (show (Addr.add _ _).block ≠ _; rw [bG]; exact hn370_0) | exact hn370_0) (.int .i64 ((rd_T27 (rd_L2 ((rd_T32 l0_1 a1).f0) x17_1) x23_2).f0))).trans hx370_0; replace hx370_0 := (cell_far (p := ⟨gb367, 1, none⟩) (by first | (rw [bG]; exact hn370_1) | (show (Addr.add _ _).block ≠ _; rw [bG]; exact hn370_1) | exact hn370_1) (.int .i64 ((rd_T27 (rd_L2 ((rd_T32 l0_1 a1).f0) x17_1) x23_2).f1))).trans hx370_0; replace hx370_0 := (cell_far (p := ⟨gb367, 2, none⟩) (by first | (rw [bG]; exact hn370_2) | (show (Addr.add _ _).block ≠ _; rw [bG]; exact hn370_2) | exact hn370_2) (.int .i64 ((rd_T27 (rd_L2 ((rd_T32 l0_1 a1).f0) x17_1) x23_2).f2))).trans hx370_0; replace hx370_0 := (cell_far (p := ⟨gb367, 3, none⟩) (by first | (rw [bG]; exact hn370_3) | (show (Addr.add _ _).block ≠ _; rw [bG]; exact hn370_3) | exact hn370_3) (.int .i64 ((rd_T27 (rd_L2 ((rd_T32 l0_1 a1).f0) x17_1) x23_2).f3))).trans hx370_0; replace hx370_0 := (cell_far (p := ⟨gb367, 4, none⟩) (by first | (rw [bG]; exact hn370_4) | (show (Addr.add _ _).block ≠ _; rw [bG]; exact hn370_4) | exact hn370_4) (.int .i64 ((rd_T27 (rd_L2 ((rd_T32 l0_1 a1).f0) x17_1) x23_2).f4))).trans hx370_0; clear hn370_0; clear hn370_1; clear hn370_2; clear hn370_3; clear hn370_4; replace p370 := eq_true p370; replace q370 := eq_true q370))
                   go_ret
                   exact ⟨by first | rfl | (simp [errW_none, errW_some] <;> rfl) | (simp only [← hji22]; first | rfl | (simp [errW_none, errW_some] <;> rfl)) | (simp [*, errW_none, errW_some] <;> rfl), by repeat (first | (with_reducible first | exact HB.out | apply aE | apply aC | apply aD | refine aJ ?_ GE363.out | refine aJ ?_ GE367.out) | exact HB.out)⟩
                  ·rw [if_neg c24] at H
                   have c24b0 : decide ((rd l0_0 (ji22)) ≤ t368) = false := decide_eq_false c24
                   clear c24
                   have H' := aA.mk H
                   clear H
                   have p366 : 0 ≤ (x23_2 : Int) := lE (by first | (with_reducible assumption) | assumption)
                   have q366 : x23_2 < ((rd_L2 ((rd_T32 l0_1 a1).f0) x17_1).length : Int) := lE (by first | (with_reducible assumption) | assumption)
                   obtain ⟨ad366, e366, hx366_0, hx366_1, hx366_2, hx366_3, hx366_4⟩ := at_T27 HR365_0.out x23_2 p366 q366
                   cases e366
                   replace hx366_0 := (HB.out.cell (lD w _ hx366_0)).trans hx366_0
                   replace hx366_1 := (HB.out.cell (lD w _ hx366_1)).trans hx366_1
                   replace hx366_2 := (HB.out.cell (lD w _ hx366_2)).trans hx366_2
                   replace hx366_3 := (HB.out.cell (lD w _ hx366_3)).trans hx366_3
                   replace hx366_4 := (HB.out.cell (lD w _ hx366_4)).trans hx366_4
                   replace p366 := eq_true p366
                   replace q366 := eq_true q366
                   go_wp2_with (first | ((with_reducible refine bF (N := 8) rfl ?_); (try (refine gate_guard (by rfl) ?_; dsimp only)); refine bH ?hg (N := 8) ?hd (cs := #[.int .i64 0, .int .i64 0, .int .i64 0, .int .i64 0, .int .i64 0]) (t := 27) ?hr ?_; (case hd => rfl); (case hg => rfl); (case hr => first | (go_simp; done) | (go_simp; rfl)); intro gb367 hg w29 hbox hb; have n0_ := aA.mk (aY (g := gb363) (o := .cells #[.slice A0_0 l0_0.length c0_0, .slice (some ad364) l0_1.length c0_1] 58 (0, 0)) (by (with_reducible repeat (first | refine aK ?_ _ | refine aN ?_ | refine aM ?_ _)); exact BK363.out) hb); have n1_ := aA.mk (aV (by repeat (first | (with_reducible first | exact HB.out | apply aE | apply aC | apply aD | refine aJ ?_ GE363.out) | exact HB.out)) hb); have n2_ := aA.mk (hbox); have n3_ := aA.mk ((by rw [hg]; exact (aQ (by repeat (first | (with_reducible first | exact HB.out | apply aE | apply aC | apply aD | refine aJ ?_ GE363.out) | exact HB.out))) : w.heap.size ≤ gb367)); have n4_ := aA.mk ((by rw [hg]; exact (aQ (by repeat (first | (with_reducible first | exact HB.out | apply aE | apply aC | apply aD | refine aJ ?_ GE363.out) | exact HB.out))) : w.heap.size ≤ gb367)); have n5_ := aA.mk ((by rw [hg]; exact Nat.ne_of_lt (bN (g := gb363) (o := .cells #[.slice A0_0 l0_0.length c0_0, .slice (some ad364) l0_1.length c0_1] 58 (0, 0)) (by (with_reducible repeat (first | refine aK ?_ _ | refine aN ?_ | refine aM ?_ _)); exact BK363.out)) : gb363 ≠ gb367)); have n6_ := aA.mk ((by rw [hg]; exact Nat.ne_of_gt (bN (g := gb363) (o := .cells #[.slice A0_0 l0_0.length c0_0, .slice (some ad364) l0_1.length c0_1] 58 (0, 0)) (by (with_reducible repeat (first | refine aK ?_ _ | refine aN ?_ | refine aM ?_ _)); exact BK363.out)) : gb367 ≠ gb363)); clear BK363; clear HB; have BK363 := n0_; have HB := n1_; have BK367 := n2_; have GW367 := n3_; have GE367 := n4_; have NB363_367 := n5_; have NB367_363 := n6_; clear n0_ n1_ n2_ n3_ n4_ n5_ n6_; clear hb hbox hg; have hnb30 := NB367_363.out; have hnc30 := NB363_367.out; have hcz31_0 : w29.cell? ⟨gb367, 0, none⟩ = some (.int .i64 0) := (aG BK367.out 0).trans rfl; have hcz31_1 : w29.cell? ⟨gb367, 1, none⟩ = some (.int .i64 0) := (aG BK367.out 1).trans rfl; have hcz31_2 : w29.cell? ⟨gb367, 2, none⟩ = some (.int .i64 0) := (aG BK367.out 2).trans rfl; have hcz31_3 : w29.cell? ⟨gb367, 3, none⟩ = some (.int .i64 0) := (aG BK367.out 3).trans rfl; have hcz31_4 : w29.cell? ⟨gb367, 4, none⟩ = some (.int .i64 0) := (aG BK367.out 4).trans rfl; have hfz31_0 := aH BK367.out 0; have hfz31_1 := aH BK367.out 1; have hfz31_2 := aH BK367.out 2; have hfz31_3 := aH BK367.out 3; have hfz31_4 := aH BK367.out 4) | ((with_reducible refine bC (f := 84) rfl ?_); refine bL (some 31) rfl rfl Try.func84 (by kernel_rfl) rfl #[.int .i64 ((rd_T27 (rd_L2 ((rd_T32 l0_1 a1).f0) x17_1) x23_2).f0), .int .i64 ((rd_T27 (rd_L2 ((rd_T32 l0_1 a1).f0) x17_1) x23_2).f1)] rfl (by (try simp only [List.map_toArray, List.map_cons, List.map_nil]); first | done | rfl | (simp only [List.length_drop, List.length_take]; rfl)) ?_; (with_reducible refine (impl_SpotOf.calls ((rd_T27 (rd_L2 ((rd_T32 l0_1 a1).f0) x17_1) x23_2).f0) ((rd_T27 (rd_L2 ((rd_T32 l0_1 a1).f0) x17_1) x23_2).f1) t368 _ A13.out).mono ?_); rintro e w' ⟨rfl, ⟨nd, rfl⟩⟩; refine ⟨_, rfl, ?_⟩; have hcz32_0 : w29.cell? ⟨gb363, 0, none⟩ = some (.slice A0_0 l0_0.length c0_0) := (aG BK363.out 0).trans rfl; have hcz32_1 : w29.cell? ⟨gb363, 1, none⟩ = some (.slice (some ad364) l0_1.length c0_1) := (aG BK363.out 1).trans rfl; have hfz32_0 := aH BK363.out 0; have hfz32_1 := aH BK363.out 1; have p369 : 0 ≤ (a1 : Int) := lE (by first | (with_reducible assumption) | assumption); have q369 : a1 < (l0_0.length : Int) := lE (by first | (with_reducible assumption) | assumption); obtain ⟨ad369, e369, hx369_0⟩ := Kd.at_int HR0_0.out a1 p369 q369; cases e369; have hn369_0 : ad369.block ≠ gb367 := Nat.ne_of_lt (Nat.lt_of_lt_of_le (by have := lD _ _ hx369_0; first | rwa [bG] at this | exact this) GW367.out); have hn369_1 : ad369.block ≠ gb367 := Nat.ne_of_lt (Nat.lt_of_lt_of_le (by have := lD _ _ hx369_0; first | rwa [bG] at this | exact this) GW367.out); have hn369_2 : ad369.block ≠ gb367 := Nat.ne_of_lt (Nat.lt_of_lt_of_le (by have := lD _ _ hx369_0; first | rwa [bG] at this | exact this) GW367.out); have hn369_3 : ad369.block ≠ gb367 := Nat.ne_of_lt (Nat.lt_of_lt_of_le (by have := lD _ _ hx369_0; first | rwa [bG] at this | exact this) GW367.out); have hn369_4 : ad369.block ≠ gb367 := Nat.ne_of_lt (Nat.lt_of_lt_of_le (by have := lD _ _ hx369_0; first | rwa [bG] at this | exact this) GW367.out); replace hx369_0 := (HB.out.cell (lD w _ hx369_0)).trans hx369_0; replace hx369_0 := (cell_far (p := ⟨gb367, 0, none⟩) (by first | (rw [bG]; exact hn369_0) | (show (Addr.add _ _).block ≠ _; rw [bG]; exact hn369_0) | exact hn369_0) (.int .i64 ((rd_T27 (rd_L2 ((rd_T32 l0_1 a1).f0) x17_1) x23_2).f0))).trans hx369_0; replace hx369_0 := (cell_far (p := ⟨gb367, 1, none⟩) (by first | (rw [bG]; exact hn369_1) | (show (Addr.add _ _).block ≠ _; rw [bG]; exact hn369_1) | exact hn369_1) (.int .i64 ((rd_T27 (rd_L2 ((rd_T32 l0_1 a1).f0) x17_1) x23_2).f1))).trans hx369_0; replace hx369_0 := (cell_far (p := ⟨gb367, 2, none⟩) (by first | (rw [bG]; exact hn369_2) | (show (Addr.add _ _).block ≠ _; rw [bG]; exact hn369_2) | exact hn369_2) (.int .i64 ((rd_T27 (rd_L2 ((rd_T32 l0_1 a1).f0) x17_1) x23_2).f2))).trans hx369_0; replace hx369_0 := (cell_far (p := ⟨gb367, 3, none⟩) (by first | (rw [bG]; exact hn369_3) | (show (Addr.add _ _).block ≠ _; rw [bG]; exact hn369_3) | exact hn369_3) (.int .i64 ((rd_T27 (rd_L2 ((rd_T32 l0_1 a1).f0) x17_1) x23_2).f3))).trans hx369_0; replace hx369_0 := (cell_far (p := ⟨gb367, 4, none⟩) (by first | (rw [bG]; exact hn369_4) | (show (Addr.add _ _).block ≠ _; rw [bG]; exact hn369_4) | exact hn369_4) (.int .i64 ((rd_T27 (rd_L2 ((rd_T32 l0_1 a1).f0) x17_1) x23_2).f4))).trans hx369_0; clear hn369_0; clear hn369_1; clear hn369_2; clear hn369_3; clear hn369_4; replace p369 := eq_true p369; replace q369 := eq_true q369; have p370 : 0 ≤ ((ji22) : Int) := lE (by first | (with_reducible assumption) | assumption); have q370 : (ji22) < (l0_0.length : Int) := lE (by first | (with_reducible assumption) | assumption); obtain ⟨ad370, e370, hx370_0⟩ := Kd.at_int HR0_0.out (ji22) p370 q370; obtain rfl : ad369 = ad370 := (by injection e370); have hn370_0 : ad369.block ≠ gb367 := Nat.ne_of_lt (Nat.lt_of_lt_of_le (by have := lD _ _ hx370_0; first | rwa [bG] at this | exact this) GW367.out); have hn370_1 : ad369.block ≠ gb367 := Nat.ne_of_lt (Nat.lt_of_lt_of_le (by have := lD _ _ hx370_0; first | rwa [bG] at this | exact this) GW367.out); have hn370_2 : ad369.block ≠ gb367 := Nat.ne_of_lt (Nat.lt_of_lt_of_le (by have := lD _ _ hx370_0; first | rwa [bG] at this | exact this) GW367.out); have hn370_3 : ad369.block ≠ gb367 := Nat.ne_of_lt (Nat.lt_of_lt_of_le (by have := lD _ _ hx370_0; first | rwa [bG] at this | exact this) GW367.out); have hn370_4 : ad369.block ≠ gb367 := Nat.ne_of_lt (Nat.lt_of_lt_of_le (by have := lD _ _ hx370_0; first | rwa [bG] at this | exact this) GW367.out); replace hx370_0 := (HB.out.cell (lD w _ hx370_0)).trans hx370_0; replace hx370_0 := (cell_far (p := ⟨gb367, 0, none⟩) (by first | (rw [bG]; exact hn370_0) | (show (Addr.add _ _).block ≠ _; rw [bG]; exact hn370_0) | exact hn370_0) (.int .i64 ((rd_T27 (rd_L2 ((rd_T32 l0_1 a1).f0) x17_1) x23_2).f0))).trans hx370_0; replace hx370_0 := (cell_far (p := ⟨gb367, 1, none⟩) (by first | (rw [bG]; exact hn370_1) | (show (Addr.add _ _).block ≠ _; rw [bG]; exact hn370_1) | exact hn370_1) (.int .i64 ((rd_T27 (rd_L2 ((rd_T32 l0_1 a1).f0) x17_1) x23_2).f1))).trans hx370_0; replace hx370_0 := (cell_far (p := ⟨gb367, 2, none⟩) (by first | (rw [bG]; exact hn370_2) | (show (Addr.add _ _).block ≠ _; rw [bG]; exact hn370_2) | exact hn370_2) (.int .i64 ((rd_T27 (rd_L2 ((rd_T32 l0_1 a1).f0) x17_1) x23_2).f2))).trans hx370_0; replace hx370_0 := (cell_far (p := ⟨gb367, 3, none⟩) (by first | (rw [bG]; exact hn370_3) | (show (Addr.add _ _).block ≠ _; rw [bG]; exact hn370_3) | exact hn370_3) (.int .i64 ((rd_T27 (rd_L2 ((rd_T32 l0_1 a1).f0) x17_1) x23_2).f3))).trans hx370_0; replace hx370_0 := (cell_far (p := ⟨gb367, 4, none⟩) (by first | (rw [bG]; exact hn370_4) | (show (Addr.add _ _).block ≠ _; rw [bG]; exact hn370_4) | exact hn370_4) (.int .i64 ((rd_T27 (rd_L2 ((rd_T32 l0_1 a1).f0) x17_1) x23_2).f4))).trans hx370_0; clear hn370_0; clear hn370_1; clear hn370_2; clear hn370_3; clear hn370_4; replace p370 := eq_true p370; replace q370 := eq_true q370))
                   go_roundg k2
                   case measure => have := HK1.out; have := HK2.out; omega
                   case rel => exact ⟨(wrap64 (x23_2 + 1)), (by first | rfl | (simp; done) | (simp [*]; done)), H', ⟨by have := HK1.out; have := HK2.out; omega⟩, ⟨by (with_reducible repeat (first | refine aK ?_ _ | refine aN ?_ | refine aM ?_ _)); refine blk_far ?_ NB363_367.out _; (with_reducible repeat (first | refine aK ?_ _ | refine aN ?_ | refine aM ?_ _)); refine blk_far ?_ NB363_367.out _; (with_reducible repeat (first | refine aK ?_ _ | refine aN ?_ | refine aM ?_ _)); refine blk_far ?_ NB363_367.out _; (with_reducible repeat (first | refine aK ?_ _ | refine aN ?_ | refine aM ?_ _)); refine blk_far ?_ NB363_367.out _; (with_reducible repeat (first | refine aK ?_ _ | refine aN ?_ | refine aM ?_ _)); refine blk_far ?_ NB363_367.out _; (with_reducible repeat (first | refine aK ?_ _ | refine aN ?_ | refine aM ?_ _)); exact BK363.out⟩, ⟨by repeat (first | (with_reducible first | exact HB.out | apply aE | apply aC | apply aD | refine aJ ?_ GE363.out | refine aJ ?_ GE367.out) | exact HB.out)⟩⟩
                 ·rw [if_neg c23] at H
                  exact absurd H (by simp)
                ·rw [if_neg c21] at H
                 have c21b0 : decide ((wrap64 (a1 + 1)) < (l0_0.length : Int)) = false := decide_eq_false c21
                 clear c21
                 have H' := aA.mk H
                 clear H
                 have p366 : 0 ≤ (x23_2 : Int) := lE (by first | (with_reducible assumption) | assumption)
                 have q366 : x23_2 < ((rd_L2 ((rd_T32 l0_1 a1).f0) x17_1).length : Int) := lE (by first | (with_reducible assumption) | assumption)
                 obtain ⟨ad366, e366, hx366_0, hx366_1, hx366_2, hx366_3, hx366_4⟩ := at_T27 HR365_0.out x23_2 p366 q366
                 cases e366
                 replace hx366_0 := (HB.out.cell (lD w _ hx366_0)).trans hx366_0
                 replace hx366_1 := (HB.out.cell (lD w _ hx366_1)).trans hx366_1
                 replace hx366_2 := (HB.out.cell (lD w _ hx366_2)).trans hx366_2
                 replace hx366_3 := (HB.out.cell (lD w _ hx366_3)).trans hx366_3
                 replace hx366_4 := (HB.out.cell (lD w _ hx366_4)).trans hx366_4
                 replace p366 := eq_true p366
                 replace q366 := eq_true q366
                 go_wp2_with (first | ((with_reducible refine bF (N := 8) rfl ?_); (try (refine gate_guard (by rfl) ?_; dsimp only)); refine bH ?hg (N := 8) ?hd (cs := #[.int .i64 0, .int .i64 0, .int .i64 0, .int .i64 0, .int .i64 0]) (t := 27) ?hr ?_; (case hd => rfl); (case hg => rfl); (case hr => first | (go_simp; done) | (go_simp; rfl)); intro gb367 hg w33 hbox hb; have n0_ := aA.mk (aY (g := gb363) (o := .cells #[.slice A0_0 l0_0.length c0_0, .slice (some ad364) l0_1.length c0_1] 58 (0, 0)) (by (with_reducible repeat (first | refine aK ?_ _ | refine aN ?_ | refine aM ?_ _)); exact BK363.out) hb); have n1_ := aA.mk (aV (by repeat (first | (with_reducible first | exact HB.out | apply aE | apply aC | apply aD | refine aJ ?_ GE363.out) | exact HB.out)) hb); have n2_ := aA.mk (hbox); have n3_ := aA.mk ((by rw [hg]; exact (aQ (by repeat (first | (with_reducible first | exact HB.out | apply aE | apply aC | apply aD | refine aJ ?_ GE363.out) | exact HB.out))) : w.heap.size ≤ gb367)); have n4_ := aA.mk ((by rw [hg]; exact (aQ (by repeat (first | (with_reducible first | exact HB.out | apply aE | apply aC | apply aD | refine aJ ?_ GE363.out) | exact HB.out))) : w.heap.size ≤ gb367)); have n5_ := aA.mk ((by rw [hg]; exact Nat.ne_of_lt (bN (g := gb363) (o := .cells #[.slice A0_0 l0_0.length c0_0, .slice (some ad364) l0_1.length c0_1] 58 (0, 0)) (by (with_reducible repeat (first | refine aK ?_ _ | refine aN ?_ | refine aM ?_ _)); exact BK363.out)) : gb363 ≠ gb367)); have n6_ := aA.mk ((by rw [hg]; exact Nat.ne_of_gt (bN (g := gb363) (o := .cells #[.slice A0_0 l0_0.length c0_0, .slice (some ad364) l0_1.length c0_1] 58 (0, 0)) (by (with_reducible repeat (first | refine aK ?_ _ | refine aN ?_ | refine aM ?_ _)); exact BK363.out)) : gb367 ≠ gb363)); clear BK363; clear HB; have BK363 := n0_; have HB := n1_; have BK367 := n2_; have GW367 := n3_; have GE367 := n4_; have NB363_367 := n5_; have NB367_363 := n6_; clear n0_ n1_ n2_ n3_ n4_ n5_ n6_; clear hb hbox hg; have hnb34 := NB367_363.out; have hnc34 := NB363_367.out; have hcz35_0 : w33.cell? ⟨gb367, 0, none⟩ = some (.int .i64 0) := (aG BK367.out 0).trans rfl; have hcz35_1 : w33.cell? ⟨gb367, 1, none⟩ = some (.int .i64 0) := (aG BK367.out 1).trans rfl; have hcz35_2 : w33.cell? ⟨gb367, 2, none⟩ = some (.int .i64 0) := (aG BK367.out 2).trans rfl; have hcz35_3 : w33.cell? ⟨gb367, 3, none⟩ = some (.int .i64 0) := (aG BK367.out 3).trans rfl; have hcz35_4 : w33.cell? ⟨gb367, 4, none⟩ = some (.int .i64 0) := (aG BK367.out 4).trans rfl; have hfz35_0 := aH BK367.out 0; have hfz35_1 := aH BK367.out 1; have hfz35_2 := aH BK367.out 2; have hfz35_3 := aH BK367.out 3; have hfz35_4 := aH BK367.out 4) | ((with_reducible refine bC (f := 84) rfl ?_); refine bL (some 31) rfl rfl Try.func84 (by kernel_rfl) rfl #[.int .i64 ((rd_T27 (rd_L2 ((rd_T32 l0_1 a1).f0) x17_1) x23_2).f0), .int .i64 ((rd_T27 (rd_L2 ((rd_T32 l0_1 a1).f0) x17_1) x23_2).f1)] rfl (by (try simp only [List.map_toArray, List.map_cons, List.map_nil]); first | done | rfl | (simp only [List.length_drop, List.length_take]; rfl)) ?_; (with_reducible refine (impl_SpotOf.calls ((rd_T27 (rd_L2 ((rd_T32 l0_1 a1).f0) x17_1) x23_2).f0) ((rd_T27 (rd_L2 ((rd_T32 l0_1 a1).f0) x17_1) x23_2).f1) t368 _ A13.out).mono ?_); rintro e w' ⟨rfl, ⟨nd, rfl⟩⟩; refine ⟨_, rfl, ?_⟩; have hcz36_0 : w33.cell? ⟨gb363, 0, none⟩ = some (.slice A0_0 l0_0.length c0_0) := (aG BK363.out 0).trans rfl; have hcz36_1 : w33.cell? ⟨gb363, 1, none⟩ = some (.slice (some ad364) l0_1.length c0_1) := (aG BK363.out 1).trans rfl; have hfz36_0 := aH BK363.out 0; have hfz36_1 := aH BK363.out 1; have p369 : 0 ≤ (a1 : Int) := lE (by first | (with_reducible assumption) | assumption); have q369 : a1 < (l0_0.length : Int) := lE (by first | (with_reducible assumption) | assumption); obtain ⟨ad369, e369, hx369_0⟩ := Kd.at_int HR0_0.out a1 p369 q369; cases e369; have hn369_0 : ad369.block ≠ gb367 := Nat.ne_of_lt (Nat.lt_of_lt_of_le (by have := lD _ _ hx369_0; first | rwa [bG] at this | exact this) GW367.out); have hn369_1 : ad369.block ≠ gb367 := Nat.ne_of_lt (Nat.lt_of_lt_of_le (by have := lD _ _ hx369_0; first | rwa [bG] at this | exact this) GW367.out); have hn369_2 : ad369.block ≠ gb367 := Nat.ne_of_lt (Nat.lt_of_lt_of_le (by have := lD _ _ hx369_0; first | rwa [bG] at this | exact this) GW367.out); have hn369_3 : ad369.block ≠ gb367 := Nat.ne_of_lt (Nat.lt_of_lt_of_le (by have := lD _ _ hx369_0; first | rwa [bG] at this | exact this) GW367.out); have hn369_4 : ad369.block ≠ gb367 := Nat.ne_of_lt (Nat.lt_of_lt_of_le (by have := lD _ _ hx369_0; first | rwa [bG] at this | exact this) GW367.out); replace hx369_0 := (HB.out.cell (lD w _ hx369_0)).trans hx369_0; replace hx369_0 := (cell_far (p := ⟨gb367, 0, none⟩) (by first | (rw [bG]; exact hn369_0) | (show (Addr.add _ _).block ≠ _; rw [bG]; exact hn369_0) | exact hn369_0) (.int .i64 ((rd_T27 (rd_L2 ((rd_T32 l0_1 a1).f0) x17_1) x23_2).f0))).trans hx369_0; replace hx369_0 := (cell_far (p := ⟨gb367, 1, none⟩) (by first | (rw [bG]; exact hn369_1) | (show (Addr.add _ _).block ≠ _; rw [bG]; exact hn369_1) | exact hn369_1) (.int .i64 ((rd_T27 (rd_L2 ((rd_T32 l0_1 a1).f0) x17_1) x23_2).f1))).trans hx369_0; replace hx369_0 := (cell_far (p := ⟨gb367, 2, none⟩) (by first | (rw [bG]; exact hn369_2) | (show (Addr.add _ _).block ≠ _; rw [bG]; exact hn369_2) | exact hn369_2) (.int .i64 ((rd_T27 (rd_L2 ((rd_T32 l0_1 a1).f0) x17_1) x23_2).f2))).trans hx369_0; replace hx369_0 := (cell_far (p := ⟨gb367, 3, none⟩) (by first | (rw [bG]; exact hn369_3) | (show (Addr.add _ _).block ≠ _; rw [bG]; exact hn369_3) | exact hn369_3) (.int .i64 ((rd_T27 (rd_L2 ((rd_T32 l0_1 a1).f0) x17_1) x23_2).f3))).trans hx369_0; replace hx369_0 := (cell_far (p := ⟨gb367, 4, none⟩) (by first | (rw [bG]; exact hn369_4) | (show (Addr.add _ _).block ≠ _; rw [bG]; exact hn369_4) | exact hn369_4) (.int .i64 ((rd_T27 (rd_L2 ((rd_T32 l0_1 a1).f0) x17_1) x23_2).f4))).trans hx369_0; clear hn369_0; clear hn369_1; clear hn369_2; clear hn369_3; clear hn369_4; replace p369 := eq_true p369; replace q369 := eq_true q369))
                 go_roundg k2
                 case measure => have := HK1.out; have := HK2.out; omega
                 case rel => exact ⟨(wrap64 (x23_2 + 1)), (by first | rfl | (simp; done) | (simp [*]; done)), H', ⟨by have := HK1.out; have := HK2.out; omega⟩, ⟨by (with_reducible repeat (first | refine aK ?_ _ | refine aN ?_ | refine aM ?_ _)); refine blk_far ?_ NB363_367.out _; (with_reducible repeat (first | refine aK ?_ _ | refine aN ?_ | refine aM ?_ _)); refine blk_far ?_ NB363_367.out _; (with_reducible repeat (first | refine aK ?_ _ | refine aN ?_ | refine aM ?_ _)); refine blk_far ?_ NB363_367.out _; (with_reducible repeat (first | refine aK ?_ _ | refine aN ?_ | refine aM ?_ _)); refine blk_far ?_ NB363_367.out _; (with_reducible repeat (first | refine aK ?_ _ | refine aN ?_ | refine aM ?_ _)); refine blk_far ?_ NB363_367.out _; (with_reducible repeat (first | refine aK ?_ _ | refine aN ?_ | refine aM ?_ _)); exact BK363.out⟩, ⟨by repeat (first | (with_reducible first | exact HB.out | apply aE | apply aC | apply aD | refine aJ ?_ GE363.out | refine aJ ?_ GE367.out) | exact HB.out)⟩⟩
              ·rw [if_neg c15] at H
               exact absurd H (by simp)
             ·rw [if_neg c14] at H
              exact absurd H (by simp)
            ·rw [if_neg c12] at H
             exact absurd H (by simp)
           ·rw [if_neg c11] at H
            exact absurd H (by simp)
          ·rw [if_neg c10] at H
           have c10b0 : decide (x23_2 < ((rd_L2 ((rd_T32 l0_1 a1).f0) x17_1).length : Int)) = false := decide_eq_false c10
           clear c10
           have H' := aA.mk H
           clear H
           go_wp2
           go_roundg k2
           case measure => have := HK1.out; have := HK2.out; omega
           case rel => exact ⟨(wrap64 (x17_1 + 1)), (by first | rfl | (simp; done) | (simp [*]; done)), H', ⟨by have := HK1.out; have := HK2.out; omega⟩, ⟨by (with_reducible repeat (first | refine aK ?_ _ | refine aN ?_ | refine aM ?_ _)); exact BK363.out⟩, ⟨by repeat (first | (with_reducible first | exact HB.out | apply aE | apply aC | apply aD | refine aJ ?_ GE363.out) | exact HB.out)⟩⟩
       ·rw [if_neg c9] at H
        exact absurd H (by simp)
      ·rw [if_neg c8] at H
       exact absurd H (by simp)
     ·rw [if_neg c7] at H
      have c7b0 : decide (x17_1 < (((rd_T32 l0_1 a1).f0).length : Int)) = false := decide_eq_false c7
      clear c7
      obtain rfl := Option.some.inj H
      go_wp2
      go_ret
      exact ⟨by first | rfl | (simp [errW_none, errW_some] <;> rfl) | (simp [*, errW_none, errW_some] <;> rfl), by repeat (first | (with_reducible first | exact HB.out | apply aE | apply aC | apply aD | refine aJ ?_ GE363.out) | exact HB.out)⟩
  ·rw [if_neg c4] at H
   exact absurd H (by simp)
 ·rw [if_neg c3] at H
  exact absurd H (by simp)
end Go.Proofs.Ythpfihklkcnckaa.PFnExactTreeOk

namespace Go.Proofs.Ythpfihklkcnckaa.PFnExactTreeOk
open Go.RowKit Go.Proofs.YthpfihklkcnckaaW.PrintWords Go.Proofs.YthpfihklkcnckaaW.PrintLast Go.Proofs.YthpfihklkcnckaaW.PrintMore
attribute [local go_sem] max2_int min2_int max_two min_two max_three min_three max_four min_four   -- for this text's walks alone
set_option linter.unusedVariables false
set_option linter.unusedSimpArgs false
mutual
def impl_TreeOk.j0 : Nat → Bool → List Int → List (S32) → Option (Bool)
 | 0, _, _, _ => none
 | k + 1, x27, x372000, x372001 => if x27 = true then (some false) else (impl_TreeOk.l0 k 0 x372001 (x372001.length : Int) 0 x372000 x372001)
def impl_TreeOk.l0 : Nat → Int → List (S32) → Int → Int → List Int → List (S32) → Option (Bool)
 | 0, _, _, _, _, _, _ => none
 | k + 1, x3, x29, x30, x31, x372000, x372001 => if x31 < x30 then (if 0 ≤ x31 then (if x31 < (x29.length : Int) then (if x31 > 0 then (if 0 ≤ (wrap64 (x31 - 1)) then (if (wrap64 (x31 - 1)) < (x372000.length : Int) then (if x31 < (x372000.length : Int) then (if (rd x372000 (wrap64 (x31 - 1))) ≥ (rd x372000 x31) then (impl_TreeOk.j2 k x3 x31 x29 x30 x31 true x372000 x372001 ((rd_T32 x29 x31).f0)) else ((impl_NodeOk.f k ((rd_T32 x29 x31).f0)).bind fun t378 => (if t378 = true then ((impl_inBounds.f k x372000 x372001 x31).bind fun t379 => (impl_TreeOk.j2 k x3 x31 x29 x30 x31 (!t379) x372000 x372001 ((rd_T32 x29 x31).f0))) else (impl_TreeOk.j2 k x3 x31 x29 x30 x31 true x372000 x372001 ((rd_T32 x29 x31).f0))))) else (none)) else (none)) else (none)) else ((impl_NodeOk.f k ((rd_T32 x29 x31).f0)).bind fun t380 => (if t380 = true then ((impl_inBounds.f k x372000 x372001 x31).bind fun t381 => (impl_TreeOk.j2 k x3 x31 x29 x30 x31 (!t381) x372000 x372001 ((rd_T32 x29 x31).f0))) else (impl_TreeOk.j2 k x3 x31 x29 x30 x31 true x372000 x372001 ((rd_T32 x29 x31).f0))))) else (none)) else (none)) else (some (decide (x3 ≤ 60)))
def impl_TreeOk.j2 : Nat → Int → Int → List (S32) → Int → Int → Bool → List Int → List (S32) → List (List (S27)) → Option (Bool)
 | 0, _, _, _, _, _, _, _, _, _ => none
 | k + 1, x3, x4, x29, x30, x31, x62, x372000, x372001, x376000 => if x62 = true then (some false) else ((impl_NodeKeys.f k x376000).bind fun t382 => (if x4 > 0 then (if (t382.length : Int) = 0 then (some false) else (impl_TreeOk.l0 k (wrap64 (x3 + (t382.length : Int))) x29 x30 (wrap64 (x31 + 1)) x372000 x372001)) else (impl_TreeOk.l0 k (wrap64 (x3 + (t382.length : Int))) x29 x30 (wrap64 (x31 + 1)) x372000 x372001)))
end
def impl_TreeOk.f (k : Nat) (l0_0 : List Int) (l0_1 : List (S32)) : Option (Bool) := (impl_within.f (l0_1.length : Int) 1 20).bind fun t372 => (if t372 = true then (if (l0_0.length : Int) = (l0_1.length : Int) then (if 0 < (l0_0.length : Int) then (impl_TreeOk.j0 k ((rd l0_0 0) != 0) l0_0 l0_1) else (none)) else (impl_TreeOk.j0 k true l0_0 l0_1)) else (impl_TreeOk.j0 k true l0_0 l0_1))
def impl_TreeOk.T7 : Bool × List (List Nat × List Nat) := (true, [([], []), ([0], [0]), ([1], [1]), ([2], [2]), ([3, 2], [2, 3]), ([2], [2]), ([5, 2], [2, 5]), ([4, 6, 2], [2, 4, 6]), ([7, 2], [2, 7]), ([2], [2]), ([9, 2], [2, 9]), ([2], [2]), ([10, 11, 2], [2, 10, 11]), ([12, 2], [2, 12]), ([8, 13, 2], [2, 8, 13]), ([2, 14], [2, 14]), ([15, 2], [15]), ([16], [16]), ([17, 16, 16], [16, 17]), ([18, 16], [16, 18]), ([16, 19], [16, 19]), ([20, 18], [20]), ([21], [21]), ([21], [21]), ([22, 23, 21, 21], [21, 22, 23]), ([24, 21], [21, 24]), ([21, 25], [21, 25])])
def impl_TreeOk.B7 : List Nat := [0, 1, 3, 7, 15, 7, 39, 127, 255, 7, 519, 7, 3591, 7687, 16383, 32767, 65535, 131071, 262143, 524287, 1048575, 2097151, 4194303, 4194303, 16777215, 33554431, 67108863]
theorem impl_TreeOk.tab7 : rtab .any (opsOf Try.f52 7) = impl_TreeOk.T7 := by kernel_rfl
theorem impl_TreeOk.bits7 : waitsOk impl_TreeOk.T7.2 impl_TreeOk.B7 = true := by kernel_rfl
set_option maxHeartbeats 8000000 in
set_option maxRecDepth 100000 in
theorem impl_TreeOk.calls (k : Nat) (A0_0 : Option Addr) (c0_0 : Nat) (l0_0 : List Int) (A0_1 : Option Addr) (c0_1 : Nat) (l0_1 : List (S32)) (r : Bool) (w : World) (hr0_0 : Kd.C (Kd.int .i64) w A0_0 l0_0.length l0_0) (hc0_0 : l0_0.length ≤ c0_0) (hr0_1 : Kd.C k32 w A0_1 l0_1.length l0_1) (hc0_1 : l0_1.length ≤ c0_1) (h : impl_TreeOk.f k l0_0 l0_1 = some r) :
  Calls Try.prog 52 #[.agg #[.slice A0_0 l0_0.length c0_0, .slice A0_1 l0_1.length c0_1]] w fun e w' => e = .returned (.bool r) ∧ Below w.heap.size w w' := by
 have hu58 := Try.underlying58
 have hu32 := Try.underlying32
 have HR0_0 := aA.mk hr0_0
 have HC0_0 := aA.mk hc0_0
 clear hr0_0 hc0_0
 have HR0_1 := aA.mk hr0_1
 have HC0_1 := aA.mk hc0_1
 clear hr0_1 hc0_1
 have HB := aA.mk (Below.refl w.heap.size w)
 have H : ((impl_within.f (l0_1.length : Int) 1 20).bind fun t372 => (if t372 = true then (if (l0_0.length : Int) = (l0_1.length : Int) then (if 0 < (l0_0.length : Int) then (impl_TreeOk.j0 k ((rd l0_0 0) != 0) l0_0 l0_1) else (none)) else (impl_TreeOk.j0 k true l0_0 l0_1)) else (impl_TreeOk.j0 k true l0_0 l0_1))) = some r := h
 clear h
 have HC2 := aA.mk H
 clear H
 go_enter Try.func52, Try.ntmps52
 go_upto_region 1 with (first | ((with_reducible refine bF (N := 1) rfl ?_); (try (refine gate_guard (by rfl) ?_; dsimp only)); refine bH ?hg (N := 1) ?hd (cs := #[.slice A0_0 l0_0.length c0_0, .slice A0_1 l0_1.length c0_1]) (t := 58) ?hr ?_; (case hd => rfl); (case hg => rfl); (case hr => first | (go_simp; done) | (go_simp; rfl)); intro gb371 hg w3 hbox hb; have n0_ := aA.mk (aV (by repeat (first | (with_reducible first | exact HB.out | apply aE | apply aC | apply aD) | exact HB.out)) hb); have n1_ := aA.mk (hbox); have n2_ := aA.mk ((by rw [hg]; exact (aQ (by repeat (first | (with_reducible first | exact HB.out | apply aE | apply aC | apply aD) | exact HB.out))) : w.heap.size ≤ gb371)); have n3_ := aA.mk ((by rw [hg]; exact (aQ (by repeat (first | (with_reducible first | exact HB.out | apply aE | apply aC | apply aD) | exact HB.out))) : w.heap.size ≤ gb371)); clear HB; have HB := n0_; have BK371 := n1_; have GW371 := n2_; have GE371 := n3_; clear n0_ n1_ n2_ n3_; clear hb hbox hg))
 (try simp only [Act.put, lA, lB, lC])
 go_cut [27] (fun v27 wc => ∃ (kq : Nat) (x27_1 : Bool), v27 = .bool x27_1 ∧ aA (impl_TreeOk.j0 kq x27_1 l0_0 l0_1 = some r) ∧ aA (kq ≤ k) ∧ aA (wc.heap[gb371]? = some (.cells #[(.slice A0_0 l0_0.length c0_0), (.slice A0_1 l0_1.length c0_1)] 58 (0, 0))) ∧ aA (Below w.heap.size w wc))
 case first =>
  have H := HC2.out
  clear HC2
  replace H := lF H
  obtain ⟨t372, A40, H⟩ := H
  replace H : (if t372 = true then (if (l0_0.length : Int) = (l0_1.length : Int) then (if 0 < (l0_0.length : Int) then (impl_TreeOk.j0 k ((rd l0_0 0) != 0) l0_0 l0_1) else (none)) else (impl_TreeOk.j0 k true l0_0 l0_1)) else (impl_TreeOk.j0 k true l0_0 l0_1)) = some r := H
  have A4 := aA.mk A40
  clear A40
  by_cases c5 : t372 = true
  ·subst c5
   have H1 : (if (l0_0.length : Int) = (l0_1.length : Int) then (if 0 < (l0_0.length : Int) then (impl_TreeOk.j0 k ((rd l0_0 0) != 0) l0_0 l0_1) else (none)) else (impl_TreeOk.j0 k true l0_0 l0_1)) = some r := by rw [if_pos rfl] at H; exact H
   clear H
   have H := H1
   clear H1
   by_cases c6 : (l0_0.length : Int) = (l0_1.length : Int)
   ·rw [if_pos c6] at H
    have c6b0 : ((l0_0.length : Int) == (l0_1.length : Int)) = true := beq_iff_eq.mpr c6
    have c6b1 : ((l0_0.length : Int) != (l0_1.length : Int)) = false := bne_eq_false_iff_eq.mpr c6
    have c6b2 : (l0_0.length == l0_1.length) = true := by first | simpa using c6 | (simp at c6 ⊢; omega)
    clear c6
    (first | rw [c6b0] | (simp only [aT, aU]; rw [c6b0]) | skip)
    by_cases c7 : 0 < (l0_0.length : Int)
    ·rw [if_pos c7] at H
     have c7b0 : decide (0 < (l0_0.length : Int)) = true := decide_eq_true c7
     have c7b1 : decide (0 < l0_0.length) = true := decide_eq_true (by omega)
     clear c7
     have H' := aA.mk H
     clear H
     have hcz8_0 : w3.cell? ⟨gb371, 0, none⟩ = some (.slice A0_0 l0_0.length c0_0) := (aG BK371.out 0).trans rfl
     have hcz8_1 : w3.cell? ⟨gb371, 1, none⟩ = some (.slice A0_1 l0_1.length c0_1) := (aG BK371.out 1).trans rfl
     have hfz8_0 := aH BK371.out 0
     have hfz8_1 := aH BK371.out 1
     go_wp2_with (first | ((with_reducible refine bC (f := 86) rfl ?_); refine bL (some 10) rfl rfl Try.func86 (by kernel_rfl) rfl #[.int .i64 (l0_1.length : Int), .int .i64 1, .int .i64 20] rfl (by (try simp only [List.map_toArray, List.map_cons, List.map_nil]); first | done | rfl | (simp only [List.length_drop, List.length_take]; rfl)) ?_; (with_reducible refine (impl_within.calls (l0_1.length : Int) 1 20 true _ A4.out).mono ?_); rintro e w' ⟨rfl, ⟨nd, rfl⟩⟩; refine ⟨_, rfl, ?_⟩; have p373 : 0 ≤ (0 : Int) := (by omega); have q373 : 0 < (l0_0.length : Int) := lE (by first | (with_reducible assumption) | assumption); obtain ⟨ad373, e373, hx373_0⟩ := Kd.at_int HR0_0.out 0 p373 q373; cases e373; have qi373 : (0 < l0_0.length) = True := eq_true (by omega); (try rw [show ((0 : Int)).toNat = 0 from rfl] at hx373_0); (try rw [Addr.add_zero'] at hx373_0); replace hx373_0 := (HB.out.cell (lD w _ hx373_0)).trans hx373_0; replace p373 := eq_true p373; replace q373 := eq_true q373))
     go_meet
     case rel => exact ⟨_, (((rd l0_0 0) != 0)), (by first | rfl | (simp; done) | (simp [*]; done)), H', ⟨by first | omega | exact Nat.le_refl _⟩, ⟨by (with_reducible repeat (first | refine aK ?_ _ | refine aN ?_ | refine aM ?_ _)); exact BK371.out⟩, ⟨by repeat (first | (with_reducible first | exact HB.out | apply aE | apply aC | apply aD | refine aJ ?_ GE371.out) | exact HB.out)⟩⟩
    ·rw [if_neg c7] at H
     exact absurd H (by simp)
   ·rw [if_neg c6] at H
    have c6b0 : ((l0_0.length : Int) == (l0_1.length : Int)) = false := beq_eq_false_iff_ne.mpr c6
    have c6b1 : ((l0_0.length : Int) != (l0_1.length : Int)) = true := bne_iff_ne.mpr c6
    have c6b2 : (l0_0.length == l0_1.length) = false := by first | simpa using c6 | (simp at c6 ⊢; omega)
    (first | rw [c6b0] | (simp only [aT, aU]; rw [c6b0]) | skip)
    have H' := aA.mk H
    clear H
    have hcz9_0 : w3.cell? ⟨gb371, 0, none⟩ = some (.slice A0_0 l0_0.length c0_0) := (aG BK371.out 0).trans rfl
    have hcz9_1 : w3.cell? ⟨gb371, 1, none⟩ = some (.slice A0_1 l0_1.length c0_1) := (aG BK371.out 1).trans rfl
    have hfz9_0 := aH BK371.out 0
    have hfz9_1 := aH BK371.out 1
    go_wp2_with (first | ((with_reducible refine bC (f := 86) rfl ?_); refine bL (some 10) rfl rfl Try.func86 (by kernel_rfl) rfl #[.int .i64 (l0_1.length : Int), .int .i64 1, .int .i64 20] rfl (by (try simp only [List.map_toArray, List.map_cons, List.map_nil]); first | done | rfl | (simp only [List.length_drop, List.length_take]; rfl)) ?_; (with_reducible refine (impl_within.calls (l0_1.length : Int) 1 20 true _ A4.out).mono ?_); rintro e w' ⟨rfl, ⟨nd, rfl⟩⟩; refine ⟨_, rfl, ?_⟩))
    go_meet
    case rel => exact ⟨_, (true), (by first | rfl | (simp; done) | (simp [*]; done)), H', ⟨by first | omega | exact Nat.le_refl _⟩, ⟨by (with_reducible repeat (first | refine aK ?_ _ | refine aN ?_ | refine aM ?_ _)); exact BK371.out⟩, ⟨by repeat (first | (with_reducible first | exact HB.out | apply aE | apply aC | apply aD | refine aJ ?_ GE371.out) | exact HB.out)⟩⟩
  ·replace c5 := Bool.eq_false_iff.mpr c5
   subst c5
   have H1 : (impl_TreeOk.j0 k true l0_0 l0_1) = some r := by rw [if_neg (show ¬ (false = true) by decide)] at H; exact H
   clear H
   have H := H1
   clear H1
   have H' := aA.mk H
   clear H
   have hcz10_0 : w3.cell? ⟨gb371, 0, none⟩ = some (.slice A0_0 l0_0.length c0_0) := (aG BK371.out 0).trans rfl
   have hcz10_1 : w3.cell? ⟨gb371, 1, none⟩ = some (.slice A0_1 l0_1.length c0_1) := (aG BK371.out 1).trans rfl
   have hfz10_0 := aH BK371.out 0
   have hfz10_1 := aH BK371.out 1
   go_wp2_with (first | ((with_reducible refine bC (f := 86) rfl ?_); refine bL (some 10) rfl rfl Try.func86 (by kernel_rfl) rfl #[.int .i64 (l0_1.length : Int), .int .i64 1, .int .i64 20] rfl (by (try simp only [List.map_toArray, List.map_cons, List.map_nil]); first | done | rfl | (simp only [List.length_drop, List.length_take]; rfl)) ?_; (with_reducible refine (impl_within.calls (l0_1.length : Int) 1 20 false _ A4.out).mono ?_); rintro e w' ⟨rfl, ⟨nd, rfl⟩⟩; refine ⟨_, rfl, ?_⟩))
   go_meet
   case rel => exact ⟨_, (true), (by first | rfl | (simp; done) | (simp [*]; done)), H', ⟨by first | omega | exact Nat.le_refl _⟩, ⟨by (with_reducible repeat (first | refine aK ?_ _ | refine aN ?_ | refine aM ?_ _)); exact BK371.out⟩, ⟨by repeat (first | (with_reducible first | exact HB.out | apply aE | apply aC | apply aD | refine aJ ?_ GE371.out) | exact HB.out)⟩⟩
 case rest =>
  clear HC2
  try clear p2
  try clear p3
  try clear q3
  try clear hx3
  try clear qi3
  try clear c5
  try clear c6
  try clear c6b0
  try clear c6b1
  try clear c6b2
  try clear c7
  try clear c7b0
  try clear c7b1
  try clear c8
  try clear hcz10_0
  try clear hcz10_1
  try clear hcz8_0
  try clear hcz8_1
  try clear hcz9_0
  try clear hcz9_1
  try clear hfz10_0
  try clear hfz10_1
  try clear hfz8_0
  try clear hfz8_1
  try clear hfz9_0
  try clear hfz9_1
  try clear hx373_0
  try clear p373
  try clear q373
  obtain ⟨kq, x27_1, rfl, HA, HJ1, BK371, HB⟩ := hcut
  cases kq with
  | zero => exact absurd HA.out (by simp [impl_TreeOk.j0])
  | succ kj1 =>
   have H := HA.out
   clear HA
   simp only [impl_TreeOk.j0] at H
   by_cases c11 : x27_1 = true
   ·subst c11
    have H1 : (some false) = some r := by rw [if_pos rfl] at H; exact H
    clear H
    have H := H1
    clear H1
    obtain rfl := Option.some.inj H
    go_wp2
    go_ret
    exact ⟨by first | rfl | (simp [errW_none, errW_some] <;> rfl) | (simp [*, errW_none, errW_some] <;> rfl), by repeat (first | (with_reducible first | exact HB.out | apply aE | apply aC | apply aD | refine aJ ?_ GE371.out) | exact HB.out)⟩
   ·replace c11 := Bool.eq_false_iff.mpr c11
    subst c11
    have H1 : (impl_TreeOk.l0 kj1 0 l0_1 (l0_1.length : Int) 0 l0_0 l0_1) = some r := by rw [if_neg (show ¬ (false = true) by decide)] at H; exact H
    clear H
    have H := H1
    clear H1
    have H' := aA.mk H
    clear H
    have hcz12_0 : wc.cell? ⟨gb371, 0, none⟩ = some (.slice A0_0 l0_0.length c0_0) := (aG BK371.out 0).trans rfl
    have hcz12_1 : wc.cell? ⟨gb371, 1, none⟩ = some (.slice A0_1 l0_1.length c0_1) := (aG BK371.out 1).trans rfl
    have hfz12_0 := aH BK371.out 0
    have hfz12_1 := aH BK371.out 1
    go_wp2
    go_loopg [3, 31] kj1 (fun kq v3 v31 w' => ∃ (x3_2 : Int) (x31_2 : Int), v3 = .int .i64 x3_2 ∧ v31 = .int .i64 x31_2 ∧ aA (impl_TreeOk.l0 kq x3_2 l0_1 (l0_1.length : Int) x31_2 l0_0 l0_1 = some r) ∧ aA (kq ≤ kj1) ∧ aA (w'.heap[gb371]? = some (.cells #[(.slice A0_0 l0_0.length c0_0), (.slice A0_1 l0_1.length c0_1)] 58 (0, 0))) ∧ aA (Below w.heap.size w w'))
    case atStart => exact ⟨(0), (0), (by first | rfl | (simp; done) | (simp [*]; done)), (by first | rfl | (simp; done) | (simp [*]; done)), H', ⟨Nat.le_refl _⟩, ⟨by (with_reducible repeat (first | refine aK ?_ _ | refine aN ?_ | refine aM ?_ _)); exact BK371.out⟩, ⟨by repeat (first | (with_reducible first | exact HB.out | apply aE | apply aC | apply aD | refine aJ ?_ GE371.out) | exact HB.out)⟩⟩
    case round =>
     clear H'
     try clear c1
     try clear p2
     try clear p3
     try clear q3
     try clear hx3
     try clear qi3
     try clear c5
     try clear c6
     try clear c6b0
     try clear c6b1
     try clear c6b2
     try clear c7
     try clear c7b0
     try clear c7b1
     try clear c8
     try clear c11
     try clear hcz10_0
     try clear hcz10_1
     try clear hcz12_0
     try clear hcz12_1
     try clear hcz8_0
     try clear hcz8_1
     try clear hcz9_0
     try clear hcz9_1
     try clear hfz10_0
     try clear hfz10_1
     try clear hfz12_0
     try clear hfz12_1
     try clear hfz8_0
     try clear hfz8_1
     try clear hfz9_0
     try clear hfz9_1
     try clear hx373_0
     try clear p2
     try clear p3
     try clear p373
     try clear q3
     try clear q373
     obtain ⟨x3_2, x31_2, rfl, rfl, HA, HK2, BK371, HB⟩ := hrel
     cases gk with
     | zero => exact absurd HA.out (by simp [impl_TreeOk.l0])
     | succ k2 =>
      have H := HA.out
      clear HA
      simp only [impl_TreeOk.l0] at H
      by_cases c13 : x31_2 < (l0_1.length : Int)
      ·rw [if_pos c13] at H
       have c13b0 : decide (x31_2 < (l0_1.length : Int)) = true := decide_eq_true c13
       clear c13
       by_cases c14 : 0 ≤ x31_2
       ·rw [if_pos c14] at H
        have c14b0 : decide (0 ≤ x31_2) = true := decide_eq_true c14
        clear c14
        by_cases c15 : x31_2 < (l0_1.length : Int)
        ·rw [if_pos c15] at H
         have c15b0 : decide (x31_2 < (l0_1.length : Int)) = true := decide_eq_true c15
         clear c15
         have HC16 := aA.mk H
         clear H
         have p374 : 0 ≤ (x31_2 : Int) := lE (by first | (with_reducible assumption) | assumption)
         have q374 : x31_2 < (l0_1.length : Int) := lE (by first | (with_reducible assumption) | assumption)
         obtain ⟨ad374, A374_0, c374_0, e374, hx374_0, hl374_0, hi374_0⟩ := at_T32 HR0_1.out x31_2 p374 q374
         cases e374
         replace hx374_0 := (HB.out.cell (lD w _ hx374_0)).trans hx374_0
         have HR374_0 := aA.mk hi374_0
         have HC374_0 := aA.mk hl374_0
         clear hi374_0 hl374_0
         replace p374 := eq_true p374
         replace q374 := eq_true q374
         go_upto_region 7 with (first | ((with_reducible refine bF (N := 5) rfl ?_); (try (refine gate_guard (by rfl) ?_; dsimp only)); refine bH ?hg (N := 5) ?hd (cs := #[.slice none 0 0]) (t := 32) ?hr ?_; (case hd => rfl); (case hg => rfl); (case hr => first | (go_simp; done) | (go_simp; rfl)); intro gb375 hg w17 hbox hb; have n0_ := aA.mk (aY (g := gb371) (o := .cells #[.slice A0_0 l0_0.length c0_0, .slice (some ad374) l0_1.length c0_1] 58 (0, 0)) (by (with_reducible repeat (first | refine aK ?_ _ | refine aN ?_ | refine aM ?_ _)); exact BK371.out) hb); have n1_ := aA.mk (aV (by repeat (first | (with_reducible first | exact HB.out | apply aE | apply aC | apply aD | refine aJ ?_ GE371.out) | exact HB.out)) hb); have n2_ := aA.mk (hbox); have n3_ := aA.mk ((by rw [hg]; exact (aQ (by repeat (first | (with_reducible first | exact HB.out | apply aE | apply aC | apply aD | refine aJ ?_ GE371.out) | exact HB.out))) : w.heap.size ≤ gb375)); have n4_ := aA.mk ((by rw [hg]; exact (aQ (by repeat (first | (with_reducible first | exact HB.out | apply aE | apply aC | apply aD | refine aJ ?_ GE371.out) | exact HB.out))) : w.heap.size ≤ gb375)); have n5_ := aA.mk ((by rw [hg]; exact Nat.ne_of_lt (bN (g := gb371) (o := .cells #[.slice A0_0 l0_0.length c0_0, .slice (some ad374) l0_1.length c0_1] 58 (0, 0)) (by (with_reducible repeat (first | refine aK ?_ _ | refine aN ?_ | refine aM ?_ _)); exact BK371.out)) : gb371 ≠ gb375)); have n6_ := aA.mk ((by rw [hg]; exact Nat.ne_of_gt (bN (g := gb371) (o := .cells #[.slice A0_0 l0_0.length c0_0, .slice (some ad374) l0_1.length c0_1] 58 (0, 0)) (by (with_reducible repeat (first | refine aK ?_ _ | refine aN ?_ | refine aM ?_ _)); exact BK371.out)) : gb375 ≠ gb371)); clear BK371; clear HB; have BK371 := n0_; have HB := n1_; have BK375 := n2_; have GW375 := n3_; have GE375 := n4_; have NB371_375 := n5_; have NB375_371 := n6_; clear n0_ n1_ n2_ n3_ n4_ n5_ n6_; clear hb hbox hg; have hnb18 := NB375_371.out; have hnc18 := NB371_375.out; have hcz19_0 : w17.cell? ⟨gb375, 0, none⟩ = some (.slice none 0 0) := (aG BK375.out 0).trans rfl; have hfz19_0 := aH BK375.out 0))
         (try simp only [Act.put, lA, lB, lC])
         go_cut [62] (fun v62 wc => ∃ (kq : Nat) (x62_15 : Bool), v62 = .bool x62_15 ∧ aA (impl_TreeOk.j2 kq x3_2 x31_2 l0_1 (l0_1.length : Int) x31_2 x62_15 l0_0 l0_1 ((rd_T32 l0_1 x31_2).f0) = some r) ∧ aA (kq ≤ k2) ∧ aA (wc.heap[gb371]? = some (.cells #[(.slice A0_0 l0_0.length c0_0), (.slice (some ad374) l0_1.length c0_1)] 58 (0, 0))) ∧ aA (wc.heap[gb375]? = some (.cells #[(.slice A374_0 ((rd_T32 l0_1 x31_2).f0).length c374_0)] 32 (0, 0))) ∧ aA (Below w.heap.size w wc))
         case first =>
          have H := HC16.out
          clear HC16
          by_cases c20 : x31_2 > 0
          ·rw [if_pos c20] at H
           have c20b0 : decide (0 < x31_2) = true := decide_eq_true c20
           clear c20
           (first | rw [c20b0] | (simp only [aT, aU]; rw [c20b0]) | skip)
           obtain ⟨ji21, hji21⟩ : ∃ j_ : Int, (wrap64 (x31_2 - 1)) = j_ := ⟨_, rfl⟩
           replace H : (if 0 ≤ (ji21) then (if (ji21) < (l0_0.length : Int) then (if x31_2 < (l0_0.length : Int) then (if (rd l0_0 (ji21)) ≥ (rd l0_0 x31_2) then (impl_TreeOk.j2 k2 x3_2 x31_2 l0_1 (l0_1.length : Int) x31_2 true l0_0 l0_1 ((rd_T32 l0_1 x31_2).f0)) else ((impl_NodeOk.f k2 ((rd_T32 l0_1 x31_2).f0)).bind fun t378 => (if t378 = true then ((impl_inBounds.f k2 l0_0 l0_1 x31_2).bind fun t379 => (impl_TreeOk.j2 k2 x3_2 x31_2 l0_1 (l0_1.length : Int) x31_2 (!t379) l0_0 l0_1 ((rd_T32 l0_1 x31_2).f0))) else (impl_TreeOk.j2 k2 x3_2 x31_2 l0_1 (l0_1.length : Int) x31_2 true l0_0 l0_1 ((rd_T32 l0_1 x31_2).f0))))) else (none)) else (none)) else (none)) = some r := by first | (rw [hji21] at H; exact H) | (simp only [hji21] at H ⊢; exact H)
           have hji21w : (IntKind.i64.wrap (x31_2 - 1)) = ji21 := (aT _).trans hji21
           by_cases c22 : 0 ≤ (ji21)
           ·rw [if_pos c22] at H
            have c22b0 : decide (0 ≤ (ji21)) = true := decide_eq_true c22
            clear c22
            by_cases c23 : (ji21) < (l0_0.length : Int)
            ·rw [if_pos c23] at H
             have c23b0 : decide ((ji21) < (l0_0.length : Int)) = true := decide_eq_true c23
             clear c23
             by_cases c24 : x31_2 < (l0_0.length : Int)
             ·rw [if_pos c24] at H
              have c24b0 : decide (x31_2 < (l0_0.length : Int)) = true := decide_eq_true c24
              clear c24
              by_cases c25 : (rd l0_0 (ji21)) ≥ (rd l0_0 x31_2)
              ·rw [if_pos c25] at H
               have c25b0 : decide ((rd l0_0 x31_2) ≤ (rd l0_0 (ji21))) = true := decide_eq_true c25
               clear c25
               have H' := aA.mk H
               clear H
               try go_wp2
               have n0_ : aA ((w17.setCell ⟨gb375, 0, none⟩ (.slice A374_0 ((rd_T32 l0_1 x31_2).f0).length c374_0)).heap[gb371]? = some (.cells #[.slice A0_0 l0_0.length c0_0, .slice (some ad374) l0_1.length c0_1] 58 (0, 0))) := ⟨by (with_reducible repeat (first | refine aK ?_ _ | refine aN ?_ | refine aM ?_ _)); refine blk_far ?_ NB371_375.out _; (with_reducible repeat (first | refine aK ?_ _ | refine aN ?_ | refine aM ?_ _)); exact BK371.out⟩
               have n1_ : aA ((w17.setCell ⟨gb375, 0, none⟩ (.slice A374_0 ((rd_T32 l0_1 x31_2).f0).length c374_0)).heap[gb375]? = some (.cells #[.slice A374_0 ((rd_T32 l0_1 x31_2).f0).length c374_0] 32 (0, 0))) := ⟨by (with_reducible repeat (first | refine aK ?_ _ | refine aN ?_ | refine aM ?_ _)); refine bM (cs := #[.slice none 0 0]) ?_ 0 _ rfl; (with_reducible repeat (first | refine aK ?_ _ | refine aN ?_ | refine aM ?_ _)); exact BK375.out⟩
               have n2_ : aA (Below w.heap.size w (w17.setCell ⟨gb375, 0, none⟩ (.slice A374_0 ((rd_T32 l0_1 x31_2).f0).length c374_0))) := ⟨by repeat (first | (with_reducible first | exact HB.out | apply aE | apply aC | apply aD | refine aJ ?_ GE371.out | refine aJ ?_ GE375.out) | exact HB.out)⟩
               (try clear BK371)
               (try clear BK375)
               (try clear HB)
               generalize (w17.setCell ⟨gb375, 0, none⟩ (.slice A374_0 ((rd_T32 l0_1 x31_2).f0).length c374_0)) = w26 at n0_ n1_ n2_ ⊢
               have BK371 := n0_
               have BK375 := n1_
               have HB := n2_
               clear n0_ n1_ n2_
               have n0_ := aA.mk (aN BK371.out)
               have n1_ := aA.mk (aN BK375.out)
               have n2_ := aA.mk (aD HB.out)
               clear BK371
               clear BK375
               clear HB
               have BK371 := n0_
               have BK375 := n1_
               have HB := n2_
               clear n0_ n1_ n2_
               have p376 : 0 ≤ ((ji21) : Int) := lE (by first | (with_reducible assumption) | assumption)
               have q376 : (ji21) < (l0_0.length : Int) := lE (by first | (with_reducible assumption) | assumption)
               obtain ⟨ad376, e376, hx376_0⟩ := Kd.at_int HR0_0.out (ji21) p376 q376
               have hw376_0 := hx376_0
               cases e376
               replace hx376_0 := (HB.out.cell (lD w _ hx376_0)).trans hx376_0
               replace p376 := eq_true p376
               replace q376 := eq_true q376
               have p377 : 0 ≤ (x31_2 : Int) := lE (by first | (with_reducible assumption) | assumption)
               have q377 : x31_2 < (l0_0.length : Int) := lE (by first | (with_reducible assumption) | assumption)
               obtain ⟨ad377, e377, hx377_0⟩ := Kd.at_int HR0_0.out x31_2 p377 q377
               have hw377_0 := hx377_0
               obtain rfl : ad376 = ad377 := (by injection e377)
               replace hx377_0 := (HB.out.cell (lD w _ hx377_0)).trans hx377_0
               replace p377 := eq_true p377
               replace q377 := eq_true q377
               refine start_ (n := 27) (S := fun w' => w'.cell? ⟨gb371, 0, none⟩ = some (.slice (some ad376) l0_0.length c0_0) ∧ w'.cell? ⟨gb371, 1, none⟩ = some (.slice (some ad374) l0_1.length c0_1) ∧ w'.cell? (ad376.add ((ji21)).toNat) = some (.int .i64 (rd l0_0 (ji21))) ∧ w'.cell? (ad376.add (x31_2).toNat) = some (.int .i64 (rd l0_0 x31_2))) (ds := []) #[false, false, false, false, false, false, false, false, false, false, false, false, false, false, false, false, false, false, false, false, false, false, false, false, false, false, false] (by kernel_rfl) rfl rfl ⟨(aG BK371.out 0).trans rfl, (aG BK371.out 1).trans rfl, ((HB.out.cell (lD w _ hw376_0)).trans hw376_0), ((HB.out.cell (lD w _ hw377_0)).trans hw377_0)⟩ (fun hHeld => ?_); refine with_tabW impl_TreeOk.tab7 impl_TreeOk.bits7 (fun HT_ HW_ => ?_)
               generalize w26.drew = w27 at BK371 BK375 HB hx376_0 hx377_0 hHeld ⊢
               refine aX (i := 0) (N := some 36) (v := ?_) (a' := ?_) #[true, false, false, false, false, false, false, false, false, false, false, false, false, false, false, false, false, false, false, false, false, false, false, false, false, false, false] rfl rfl (aW HT_.out (by kernel_rfl)) (fun _ _ _ h => h) (Or.inl ⟨by rfl, ?_⟩) ?_ ?_
               rotate_left
               ·intro w'
                go_simp
                with_reducible rfl
               rotate_left
               ·simp only [Act.put, lA, lB, lC, aT, aU]
                rfl
               refine aX (i := 1) (N := some 37) (v := ?_) (a' := ?_) #[true, true, false, false, false, false, false, false, false, false, false, false, false, false, false, false, false, false, false, false, false, false, false, false, false, false, false] rfl rfl (aW HT_.out (by kernel_rfl)) (fun _ _ _ h => h) (Or.inl ⟨by rfl, ?_⟩) ?_ ?_
               rotate_left
               ·intro w'
                go_simp
                with_reducible rfl
               rotate_left
               ·simp only [Act.put, lA, lB, lC, aT, aU]
                rfl
               refine aX (i := 2) (N := some 38) (v := ?_) (a' := ?_) #[true, true, true, false, false, false, false, false, false, false, false, false, false, false, false, false, false, false, false, false, false, false, false, false, false, false, false] rfl rfl (aW HT_.out (by kernel_rfl)) (fun _ _ _ h => h) (Or.inl ⟨by rfl, ?_⟩) ?_ ?_
               rotate_left
               ·intro w'
                go_simp
                with_reducible rfl
               rotate_left
               ·simp only [Act.put, lA, lB, lC, aT, aU]
                rfl
               refine aX (i := 3) (N := some 39) (v := ?_) (a' := ?_) #[true, true, true, true, false, false, false, false, false, false, false, false, false, false, false, false, false, false, false, false, false, false, false, false, false, false, false] rfl rfl (aW HT_.out (by kernel_rfl)) (fun _ _ _ h => h) (Or.inl ⟨by rfl, ?_⟩) ?_ ?_
               rotate_left
               ·intro w'
                go_simp
                with_reducible rfl
               rotate_left
               ·simp only [Act.put, lA, lB, lC, aT, aU]
                rfl
               refine aX (i := 5) (N := some 41) (v := ?_) (a' := ?_) #[true, true, true, true, false, true, false, false, false, false, false, false, false, false, false, false, false, false, false, false, false, false, false, false, false, false, false] rfl rfl (aW HT_.out (by kernel_rfl)) (fun _ _ _ h => h) (Or.inl ⟨by rfl, ?_⟩) ?_ ?_
               rotate_left
               ·intro w'
                go_simp
                with_reducible rfl
               rotate_left
               ·simp only [Act.put, lA, lB, lC, aT, aU]
                rfl
               refine aX (i := 6) (N := some 42) (v := ?_) (a' := ?_) #[true, true, true, true, false, true, true, false, false, false, false, false, false, false, false, false, false, false, false, false, false, false, false, false, false, false, false] rfl rfl (aW HT_.out (by kernel_rfl)) (fun _ _ _ h => h) (Or.inl ⟨by rfl, ?_⟩) ?_ ?_
               rotate_left
               ·intro w'
                go_simp
                with_reducible rfl
               rotate_left
               ·simp only [Act.put, lA, lB, lC, aT, aU]
                rfl
               refine aX (i := 9) (N := some 45) (v := ?_) (a' := ?_) #[true, true, true, true, false, true, true, false, false, true, false, false, false, false, false, false, false, false, false, false, false, false, false, false, false, false, false] rfl rfl (aW HT_.out (by kernel_rfl)) (fun _ _ _ h => h) (Or.inl ⟨by rfl, ?_⟩) ?_ ?_
               rotate_left
               ·intro w'
                go_simp
                with_reducible rfl
               rotate_left
               ·simp only [Act.put, lA, lB, lC, aT, aU]
                rfl
               refine aX (i := 11) (N := some 47) (v := ?_) (a' := ?_) #[true, true, true, true, false, true, true, false, false, true, false, true, false, false, false, false, false, false, false, false, false, false, false, false, false, false, false] rfl rfl (aW HT_.out (by kernel_rfl)) (fun _ _ _ h => h) (Or.inl ⟨by rfl, ?_⟩) ?_ ?_
               rotate_left
               ·intro w'
                go_simp
                with_reducible rfl
               rotate_left
               ·simp only [Act.put, lA, lB, lC, aT, aU]
                rfl
               refine take_ (i := 4) (N := some 40) (v := ?_) (a' := ?_) #[true, true, true, true, true, true, true, false, false, true, false, true, false, false, false, false, false, false, false, false, false, false, false, false, false, false, false] rfl rfl (bP HT_.out HW_.out (by kernel_rfl)) (fun _ _ _ h => h) (Or.inl ⟨by rfl, ?_⟩) hHeld ?_ ?_
               rotate_left
               ·rintro w' ⟨s0, s1, s2, s3⟩
                go_simp
                with_reducible rfl
               rotate_left
               ·simp only [Act.put, lA, lB, lC, aT, aU]
                rfl
               refine aX (i := 7) (N := some 43) (v := ?_) (a' := ?_) #[true, true, true, true, true, true, true, true, false, true, false, true, false, false, false, false, false, false, false, false, false, false, false, false, false, false, false] rfl rfl (aW HT_.out (by kernel_rfl)) (fun _ _ _ h => h) (Or.inl ⟨by rfl, ?_⟩) ?_ ?_
               rotate_left
               ·intro w'
                go_simp
                with_reducible rfl
               rotate_left
               ·simp only [Act.put, lA, lB, lC, aT, aU]
                rfl
               refine take_ (i := 8) (N := some 44) (v := ?_) (a' := ?_) #[true, true, true, true, true, true, true, true, true, true, false, true, false, false, false, false, false, false, false, false, false, false, false, false, false, false, false] rfl rfl (bP HT_.out HW_.out (by kernel_rfl)) (fun _ _ _ h => h) (Or.inl ⟨by rfl, ?_⟩) hHeld ?_ ?_
               rotate_left
               ·rintro w' ⟨s0, s1, s2, s3⟩
                go_simp
                with_reducible rfl
               rotate_left
               ·simp only [Act.put, lA, lB, lC, aT, aU]
                rfl
               refine take_ (i := 10) (N := some 46) (v := ?_) (a' := ?_) #[true, true, true, true, true, true, true, true, true, true, true, true, false, false, false, false, false, false, false, false, false, false, false, false, false, false, false] rfl rfl (bP HT_.out HW_.out (by kernel_rfl)) (fun _ _ _ h => h) (Or.inl ⟨by rfl, ?_⟩) hHeld ?_ ?_
               rotate_left
               ·rintro w' ⟨s0, s1, s2, s3⟩
                go_simp
                with_reducible rfl
               rotate_left
               ·simp only [Act.put, lA, lB, lC, aT, aU]
                rfl
               refine aX (i := 12) (N := some 48) (v := ?_) (a' := ?_) #[true, true, true, true, true, true, true, true, true, true, true, true, true, false, false, false, false, false, false, false, false, false, false, false, false, false, false] rfl rfl (aW HT_.out (by kernel_rfl)) (fun _ _ _ h => h) (Or.inl ⟨by rfl, ?_⟩) ?_ ?_
               rotate_left
               ·intro w'
                go_simp
                with_reducible rfl
               rotate_left
               ·simp only [Act.put, lA, lB, lC, aT, aU]
                rfl
               refine take_ (i := 13) (N := some 49) (v := ?_) (a' := ?_) #[true, true, true, true, true, true, true, true, true, true, true, true, true, true, false, false, false, false, false, false, false, false, false, false, false, false, false] rfl rfl (bP HT_.out HW_.out (by kernel_rfl)) (fun _ _ _ h => h) (Or.inl ⟨by rfl, ?_⟩) hHeld ?_ ?_
               rotate_left
               ·rintro w' ⟨s0, s1, s2, s3⟩
                go_simp
                with_reducible rfl
               rotate_left
               ·simp only [Act.put, lA, lB, lC, aT, aU]
                rfl
               refine aX (i := 14) (N := some 50) (v := ?_) (a' := ?_) #[true, true, true, true, true, true, true, true, true, true, true, true, true, true, true, false, false, false, false, false, false, false, false, false, false, false, false] rfl rfl (aW HT_.out (by kernel_rfl)) (fun _ _ _ h => h) (Or.inl ⟨by rfl, ?_⟩) ?_ ?_
               rotate_left
               ·intro w'
                go_simp
                with_reducible rfl
               rotate_left
               ·simp only [Act.put, lA, lB, lC, aT, aU]
                rfl
               refine aX (i := 15) (N := some 51) (v := ?_) (a' := ?_) #[true, true, true, true, true, true, true, true, true, true, true, true, true, true, true, true, false, false, false, false, false, false, false, false, false, false, false] rfl rfl (aW HT_.out (by kernel_rfl)) (fun _ _ _ h => h) (Or.inl ⟨by rfl, ?_⟩) ?_ ?_
               rotate_left
               ·intro w'
                go_simp
                with_reducible rfl
               rotate_left
               ·simp only [Act.put, lA, lB, lC, aT, aU]
                rfl
               refine aX (i := 16) (N := some 52) (v := ?_) (a' := ?_) #[true, true, true, true, true, true, true, true, true, true, true, true, true, true, true, true, true, false, false, false, false, false, false, false, false, false, false] rfl rfl (aW HT_.out (by kernel_rfl)) (fun _ _ _ h => h) (Or.inl ⟨by rfl, ?_⟩) ?_ ?_
               rotate_left
               ·intro w'
                go_simp
                with_reducible rfl
               rotate_left
               ·simp only [Act.put, lA, lB, lC, aT, aU]
                rfl
               refine aX (i := 17) (N := some 53) (v := undef) (a' := ?_) #[true, true, true, true, true, true, true, true, true, true, true, true, true, true, true, true, true, true, false, false, false, false, false, false, false, false, false] rfl rfl (aW HT_.out (by kernel_rfl)) (fun _ _ _ h => h) (Or.inr ⟨by rfl, rfl⟩) ?_ ?_
               rotate_left
               ·simp only [Act.put, lA, lB, lC, aT, aU]
                rfl
               refine aX (i := 18) (N := some 54) (v := undef) (a' := ?_) #[true, true, true, true, true, true, true, true, true, true, true, true, true, true, true, true, true, true, true, false, false, false, false, false, false, false, false] rfl rfl (aW HT_.out (by kernel_rfl)) (fun _ _ _ h => h) (Or.inr ⟨by rfl, rfl⟩) ?_ ?_
               rotate_left
               ·simp only [Act.put, lA, lB, lC, aT, aU]
                rfl
               refine aX (i := 19) (N := some 55) (v := undef) (a' := ?_) #[true, true, true, true, true, true, true, true, true, true, true, true, true, true, true, true, true, true, true, true, false, false, false, false, false, false, false] rfl rfl (aW HT_.out (by kernel_rfl)) (fun _ _ _ h => h) (Or.inr ⟨by rfl, rfl⟩) ?_ ?_
               rotate_left
               ·simp only [Act.put, lA, lB, lC, aT, aU]
                rfl
               refine aX (i := 20) (N := some 56) (v := ?_) (a' := ?_) #[true, true, true, true, true, true, true, true, true, true, true, true, true, true, true, true, true, true, true, true, true, false, false, false, false, false, false] rfl rfl (aW HT_.out (by kernel_rfl)) (fun _ _ _ h => h) (Or.inl ⟨by rfl, ?_⟩) ?_ ?_
               rotate_left
               ·intro w'
                go_simp
                with_reducible rfl
               rotate_left
               ·simp only [Act.put, lA, lB, lC, aT, aU]
                rfl
               refine aX (i := 21) (N := some 57) (v := ?_) (a' := ?_) #[true, true, true, true, true, true, true, true, true, true, true, true, true, true, true, true, true, true, true, true, true, true, false, false, false, false, false] rfl rfl (aW HT_.out (by kernel_rfl)) (fun _ _ _ h => h) (Or.inl ⟨by rfl, ?_⟩) ?_ ?_
               rotate_left
               ·intro w'
                go_simp
                with_reducible rfl
               rotate_left
               ·simp only [Act.put, lA, lB, lC, aT, aU]
                rfl
               refine aX (i := 22) (N := some 58) (v := undef) (a' := ?_) #[true, true, true, true, true, true, true, true, true, true, true, true, true, true, true, true, true, true, true, true, true, true, true, false, false, false, false] rfl rfl (aW HT_.out (by kernel_rfl)) (fun _ _ _ h => h) (Or.inr ⟨by rfl, rfl⟩) ?_ ?_
               rotate_left
               ·simp only [Act.put, lA, lB, lC, aT, aU]
                rfl
               refine aX (i := 23) (N := some 59) (v := undef) (a' := ?_) #[true, true, true, true, true, true, true, true, true, true, true, true, true, true, true, true, true, true, true, true, true, true, true, true, false, false, false] rfl rfl (aW HT_.out (by kernel_rfl)) (fun _ _ _ h => h) (Or.inr ⟨by rfl, rfl⟩) ?_ ?_
               rotate_left
               ·simp only [Act.put, lA, lB, lC, aT, aU]
                rfl
               refine aX (i := 24) (N := some 60) (v := undef) (a' := ?_) #[true, true, true, true, true, true, true, true, true, true, true, true, true, true, true, true, true, true, true, true, true, true, true, true, true, false, false] rfl rfl (aW HT_.out (by kernel_rfl)) (fun _ _ _ h => h) (Or.inr ⟨by rfl, rfl⟩) ?_ ?_
               rotate_left
               ·simp only [Act.put, lA, lB, lC, aT, aU]
                rfl
               refine aX (i := 25) (N := some 61) (v := undef) (a' := ?_) #[true, true, true, true, true, true, true, true, true, true, true, true, true, true, true, true, true, true, true, true, true, true, true, true, true, true, false] rfl rfl (aW HT_.out (by kernel_rfl)) (fun _ _ _ h => h) (Or.inr ⟨by rfl, rfl⟩) ?_ ?_
               rotate_left
               ·simp only [Act.put, lA, lB, lC, aT, aU]
                rfl
               refine aX (i := 26) (N := some 62) (v := ?_) (a' := ?_) #[true, true, true, true, true, true, true, true, true, true, true, true, true, true, true, true, true, true, true, true, true, true, true, true, true, true, true] rfl rfl (aW HT_.out (by kernel_rfl)) (fun _ _ _ h => h) (Or.inl ⟨by rfl, ?_⟩) ?_ ?_
               rotate_left
               ·intro w'
                go_simp
                with_reducible rfl
               rotate_left
               ·simp only [Act.put, lA, lB, lC, aT, aU]
                rfl
               refine done_ (done_of HT_.out (by kernel_rfl)) ?_
               try go_wp2
               go_meet
               case rel => exact ⟨_, (true), (by first | rfl | (simp; done) | (simp [*]; done)), H', ⟨by have := HJ1.out; have := HK2.out; first | omega | exact Nat.le_refl _⟩, ⟨by (with_reducible repeat (first | refine aK ?_ _ | refine aN ?_ | refine aM ?_ _)); exact BK371.out⟩, ⟨by (with_reducible repeat (first | refine aK ?_ _ | refine aN ?_ | refine aM ?_ _)); exact BK375.out⟩, ⟨by repeat (first | (with_reducible first | exact HB.out | apply aE | apply aC | apply aD | refine aJ ?_ GE371.out | refine aJ ?_ GE375.out) | exact HB.out)⟩⟩
              ·rw [if_neg c25] at H
               have c25b0 : decide ((rd l0_0 x31_2) ≤ (rd l0_0 (ji21))) = false := decide_eq_false c25
               clear c25
               replace H := lF H
               obtain ⟨t378, A280, H⟩ := H
               replace H : (if t378 = true then ((impl_inBounds.f k2 l0_0 l0_1 x31_2).bind fun t379 => (impl_TreeOk.j2 k2 x3_2 x31_2 l0_1 (l0_1.length : Int) x31_2 (!t379) l0_0 l0_1 ((rd_T32 l0_1 x31_2).f0))) else (impl_TreeOk.j2 k2 x3_2 x31_2 l0_1 (l0_1.length : Int) x31_2 true l0_0 l0_1 ((rd_T32 l0_1 x31_2).f0))) = some r := H
               have A28 := aA.mk A280
               clear A280
               by_cases c29 : t378 = true
               ·subst c29
                have H1 : ((impl_inBounds.f k2 l0_0 l0_1 x31_2).bind fun t379 => (impl_TreeOk.j2 k2 x3_2 x31_2 l0_1 (l0_1.length : Int) x31_2 (!t379) l0_0 l0_1 ((rd_T32 l0_1 x31_2).f0))) = some r := by rw [if_pos rfl] at H; exact H
                clear H
                have H := H1
                clear H1
                replace H := lF H
                obtain ⟨t379, A300, H⟩ := H
                replace H : (impl_TreeOk.j2 k2 x3_2 x31_2 l0_1 (l0_1.length : Int) x31_2 (!t379) l0_0 l0_1 ((rd_T32 l0_1 x31_2).f0)) = some r := H
                have A30 := aA.mk A300
                clear A300
                have H' := aA.mk H
                clear H
                try go_wp2
                have n0_ : aA ((w17.setCell ⟨gb375, 0, none⟩ (.slice A374_0 ((rd_T32 l0_1 x31_2).f0).length c374_0)).heap[gb371]? = some (.cells #[.slice A0_0 l0_0.length c0_0, .slice (some ad374) l0_1.length c0_1] 58 (0, 0))) := ⟨by (with_reducible repeat (first | refine aK ?_ _ | refine aN ?_ | refine aM ?_ _)); refine blk_far ?_ NB371_375.out _; (with_reducible repeat (first | refine aK ?_ _ | refine aN ?_ | refine aM ?_ _)); exact BK371.out⟩
                have n1_ : aA ((w17.setCell ⟨gb375, 0, none⟩ (.slice A374_0 ((rd_T32 l0_1 x31_2).f0).length c374_0)).heap[gb375]? = some (.cells #[.slice A374_0 ((rd_T32 l0_1 x31_2).f0).length c374_0] 32 (0, 0))) := ⟨by (with_reducible repeat (first | refine aK ?_ _ | refine aN ?_ | refine aM ?_ _)); refine bM (cs := #[.slice none 0 0]) ?_ 0 _ rfl; (with_reducible repeat (first | refine aK ?_ _ | refine aN ?_ | refine aM ?_ _)); exact BK375.out⟩
                have n2_ : aA (Below w.heap.size w (w17.setCell ⟨gb375, 0, none⟩ (.slice A374_0 ((rd_T32 l0_1 x31_2).f0).length c374_0))) := ⟨by repeat (first | (with_reducible first | exact HB.out | apply aE | apply aC | apply aD | refine aJ ?_ GE371.out | refine aJ ?_ GE375.out) | exact HB.out)⟩
                (try clear BK371)
                (try clear BK375)
                (try clear HB)
                generalize (w17.setCell ⟨gb375, 0, none⟩ (.slice A374_0 ((rd_T32 l0_1 x31_2).f0).length c374_0)) = w31 at n0_ n1_ n2_ ⊢
                have BK371 := n0_
                have BK375 := n1_
                have HB := n2_
                clear n0_ n1_ n2_
                have n0_ := aA.mk (aN BK371.out)
                have n1_ := aA.mk (aN BK375.out)
                have n2_ := aA.mk (aD HB.out)
                clear BK371
                clear BK375
                clear HB
                have BK371 := n0_
                have BK375 := n1_
                have HB := n2_
                clear n0_ n1_ n2_
                have p376 : 0 ≤ ((ji21) : Int) := lE (by first | (with_reducible assumption) | assumption)
                have q376 : (ji21) < (l0_0.length : Int) := lE (by first | (with_reducible assumption) | assumption)
                obtain ⟨ad376, e376, hx376_0⟩ := Kd.at_int HR0_0.out (ji21) p376 q376
                have hw376_0 := hx376_0
                cases e376
                replace hx376_0 := (HB.out.cell (lD w _ hx376_0)).trans hx376_0
                replace p376 := eq_true p376
                replace q376 := eq_true q376
                have p377 : 0 ≤ (x31_2 : Int) := lE (by first | (with_reducible assumption) | assumption)
                have q377 : x31_2 < (l0_0.length : Int) := lE (by first | (with_reducible assumption) | assumption)
                obtain ⟨ad377, e377, hx377_0⟩ := Kd.at_int HR0_0.out x31_2 p377 q377
                have hw377_0 := hx377_0
                obtain rfl : ad376 = ad377 := (by injection e377)
                replace hx377_0 := (HB.out.cell (lD w _ hx377_0)).trans hx377_0
                replace p377 := eq_true p377
                replace q377 := eq_true q377
                refine start_ (n := 27) (S := fun w' => w'.cell? ⟨gb371, 0, none⟩ = some (.slice (some ad376) l0_0.length c0_0) ∧ w'.cell? ⟨gb371, 1, none⟩ = some (.slice (some ad374) l0_1.length c0_1) ∧ w'.cell? ⟨gb375, 0, none⟩ = some (.slice A374_0 ((rd_T32 l0_1 x31_2).f0).length c374_0) ∧ w'.cell? (ad376.add ((ji21)).toNat) = some (.int .i64 (rd l0_0 (ji21))) ∧ w'.cell? (ad376.add (x31_2).toNat) = some (.int .i64 (rd l0_0 x31_2))) (ds := []) #[false, false, false, false, false, false, false, false, false, false, false, false, false, false, false, false, false, false, false, false, false, false, false, false, false, false, false] (by kernel_rfl) rfl rfl ⟨(aG BK371.out 0).trans rfl, (aG BK371.out 1).trans rfl, (aG BK375.out 0).trans rfl, ((HB.out.cell (lD w _ hw376_0)).trans hw376_0), ((HB.out.cell (lD w _ hw377_0)).trans hw377_0)⟩ (fun hHeld => ?_); refine with_tabW impl_TreeOk.tab7 impl_TreeOk.bits7 (fun HT_ HW_ => ?_)
                generalize w31.drew = w32 at BK371 BK375 HB hx376_0 hx377_0 hHeld ⊢
                refine aX (i := 0) (N := some 36) (v := ?_) (a' := ?_) #[true, false, false, false, false, false, false, false, false, false, false, false, false, false, false, false, false, false, false, false, false, false, false, false, false, false, false] rfl rfl (aW HT_.out (by kernel_rfl)) (fun _ _ _ h => h) (Or.inl ⟨by rfl, ?_⟩) ?_ ?_
                rotate_left
                ·intro w'
                 go_simp
                 with_reducible rfl
                rotate_left
                ·simp only [Act.put, lA, lB, lC, aT, aU]
                 rfl
                refine aX (i := 1) (N := some 37) (v := ?_) (a' := ?_) #[true, true, false, false, false, false, false, false, false, false, false, false, false, false, false, false, false, false, false, false, false, false, false, false, false, false, false] rfl rfl (aW HT_.out (by kernel_rfl)) (fun _ _ _ h => h) (Or.inl ⟨by rfl, ?_⟩) ?_ ?_
                rotate_left
                ·intro w'
                 go_simp
                 with_reducible rfl
                rotate_left
                ·simp only [Act.put, lA, lB, lC, aT, aU]
                 rfl
                refine aX (i := 2) (N := some 38) (v := ?_) (a' := ?_) #[true, true, true, false, false, false, false, false, false, false, false, false, false, false, false, false, false, false, false, false, false, false, false, false, false, false, false] rfl rfl (aW HT_.out (by kernel_rfl)) (fun _ _ _ h => h) (Or.inl ⟨by rfl, ?_⟩) ?_ ?_
                rotate_left
                ·intro w'
                 go_simp
                 with_reducible rfl
                rotate_left
                ·simp only [Act.put, lA, lB, lC, aT, aU]
                 rfl
                refine aX (i := 3) (N := some 39) (v := ?_) (a' := ?_) #[true, true, true, true, false, false, false, false, false, false, false, false, false, false, false, false, false, false, false, false, false, false, false, false, false, false, false] rfl rfl (aW HT_.out (by kernel_rfl)) (fun _ _ _ h => h) (Or.inl ⟨by rfl, ?_⟩) ?_ ?_
                rotate_left
                ·intro w'
                 go_simp
                 with_reducible rfl
                rotate_left
                ·simp only [Act.put, lA, lB, lC, aT, aU]
                 rfl
                refine aX (i := 5) (N := some 41) (v := ?_) (a' := ?_) #[true, true, true, true, false, true, false, false, false, false, false, false, false, false, false, false, false, false, false, false, false, false, false, false, false, false, false] rfl rfl (aW HT_.out (by kernel_rfl)) (fun _ _ _ h => h) (Or.inl ⟨by rfl, ?_⟩) ?_ ?_
                rotate_left
                ·intro w'
                 go_simp
                 with_reducible rfl
                rotate_left
                ·simp only [Act.put, lA, lB, lC, aT, aU]
                 rfl
                refine aX (i := 6) (N := some 42) (v := ?_) (a' := ?_) #[true, true, true, true, false, true, true, false, false, false, false, false, false, false, false, false, false, false, false, false, false, false, false, false, false, false, false] rfl rfl (aW HT_.out (by kernel_rfl)) (fun _ _ _ h => h) (Or.inl ⟨by rfl, ?_⟩) ?_ ?_
                rotate_left
                ·intro w'
                 go_simp
                 with_reducible rfl
                rotate_left
                ·simp only [Act.put, lA, lB, lC, aT, aU]
                 rfl
                refine aX (i := 9) (N := some 45) (v := ?_) (a' := ?_) #[true, true, true, true, false, true, true, false, false, true, false, false, false, false, false, false, false, false, false, false, false, false, false, false, false, false, false] rfl rfl (aW HT_.out (by kernel_rfl)) (fun _ _ _ h => h) (Or.inl ⟨by rfl, ?_⟩) ?_ ?_
                rotate_left
                ·intro w'
                 go_simp
                 with_reducible rfl
                rotate_left
                ·simp only [Act.put, lA, lB, lC, aT, aU]
                 rfl
                refine aX (i := 11) (N := some 47) (v := ?_) (a' := ?_) #[true, true, true, true, false, true, true, false, false, true, false, true, false, false, false, false, false, false, false, false, false, false, false, false, false, false, false] rfl rfl (aW HT_.out (by kernel_rfl)) (fun _ _ _ h => h) (Or.inl ⟨by rfl, ?_⟩) ?_ ?_
                rotate_left
                ·intro w'
                 go_simp
                 with_reducible rfl
                rotate_left
                ·simp only [Act.put, lA, lB, lC, aT, aU]
                 rfl
                refine take_ (i := 4) (N := some 40) (v := ?_) (a' := ?_) #[true, true, true, true, true, true, true, false, false, true, false, true, false, false, false, false, false, false, false, false, false, false, false, false, false, false, false] rfl rfl (bP HT_.out HW_.out (by kernel_rfl)) (fun _ _ _ h => h) (Or.inl ⟨by rfl, ?_⟩) hHeld ?_ ?_
                rotate_left
                ·rintro w' ⟨s0, s1, s2, s3, s4⟩
                 go_simp
                 with_reducible rfl
                rotate_left
                ·simp only [Act.put, lA, lB, lC, aT, aU]
                 rfl
                refine aX (i := 7) (N := some 43) (v := ?_) (a' := ?_) #[true, true, true, true, true, true, true, true, false, true, false, true, false, false, false, false, false, false, false, false, false, false, false, false, false, false, false] rfl rfl (aW HT_.out (by kernel_rfl)) (fun _ _ _ h => h) (Or.inl ⟨by rfl, ?_⟩) ?_ ?_
                rotate_left
                ·intro w'
                 go_simp
                 with_reducible rfl
                rotate_left
                ·simp only [Act.put, lA, lB, lC, aT, aU]
                 rfl
                refine take_ (i := 8) (N := some 44) (v := ?_) (a' := ?_) #[true, true, true, true, true, true, true, true, true, true, false, true, false, false, false, false, false, false, false, false, false, false, false, false, false, false, false] rfl rfl (bP HT_.out HW_.out (by kernel_rfl)) (fun _ _ _ h => h) (Or.inl ⟨by rfl, ?_⟩) hHeld ?_ ?_
                rotate_left
                ·rintro w' ⟨s0, s1, s2, s3, s4⟩
                 go_simp
                 with_reducible rfl
                rotate_left
                ·simp only [Act.put, lA, lB, lC, aT, aU]
                 rfl
                refine take_ (i := 10) (N := some 46) (v := ?_) (a' := ?_) #[true, true, true, true, true, true, true, true, true, true, true, true, false, false, false, false, false, false, false, false, false, false, false, false, false, false, false] rfl rfl (bP HT_.out HW_.out (by kernel_rfl)) (fun _ _ _ h => h) (Or.inl ⟨by rfl, ?_⟩) hHeld ?_ ?_
                rotate_left
                ·rintro w' ⟨s0, s1, s2, s3, s4⟩
                 go_simp
                 with_reducible rfl
                rotate_left
                ·simp only [Act.put, lA, lB, lC, aT, aU]
                 rfl
                refine aX (i := 12) (N := some 48) (v := ?_) (a' := ?_) #[true, true, true, true, true, true, true, true, true, true, true, true, true, false, false, false, false, false, false, false, false, false, false, false, false, false, false] rfl rfl (aW HT_.out (by kernel_rfl)) (fun _ _ _ h => h) (Or.inl ⟨by rfl, ?_⟩) ?_ ?_
                rotate_left
                ·intro w'
                 go_simp
                 with_reducible rfl
                rotate_left
                ·simp only [Act.put, lA, lB, lC, aT, aU]
                 rfl
                refine take_ (i := 13) (N := some 49) (v := ?_) (a' := ?_) #[true, true, true, true, true, true, true, true, true, true, true, true, true, true, false, false, false, false, false, false, false, false, false, false, false, false, false] rfl rfl (bP HT_.out HW_.out (by kernel_rfl)) (fun _ _ _ h => h) (Or.inl ⟨by rfl, ?_⟩) hHeld ?_ ?_
                rotate_left
                ·rintro w' ⟨s0, s1, s2, s3, s4⟩
                 go_simp
                 with_reducible rfl
                rotate_left
                ·simp only [Act.put, lA, lB, lC, aT, aU]
                 rfl
                refine aX (i := 14) (N := some 50) (v := ?_) (a' := ?_) #[true, true, true, true, true, true, true, true, true, true, true, true, true, true, true, false, false, false, false, false, false, false, false, false, false, false, false] rfl rfl (aW HT_.out (by kernel_rfl)) (fun _ _ _ h => h) (Or.inl ⟨by rfl, ?_⟩) ?_ ?_
                rotate_left
                ·intro w'
                 go_simp
                 with_reducible rfl
                rotate_left
                ·simp only [Act.put, lA, lB, lC, aT, aU]
                 rfl
                refine aX (i := 15) (N := some 51) (v := ?_) (a' := ?_) #[true, true, true, true, true, true, true, true, true, true, true, true, true, true, true, true, false, false, false, false, false, false, false, false, false, false, false] rfl rfl (aW HT_.out (by kernel_rfl)) (fun _ _ _ h => h) (Or.inl ⟨by rfl, ?_⟩) ?_ ?_
                rotate_left
                ·intro w'
                 go_simp
                 with_reducible rfl
                rotate_left
                ·simp only [Act.put, lA, lB, lC, aT, aU]
                 rfl
                refine aX (i := 16) (N := some 52) (v := ?_) (a' := ?_) #[true, true, true, true, true, true, true, true, true, true, true, true, true, true, true, true, true, false, false, false, false, false, false, false, false, false, false] rfl rfl (aW HT_.out (by kernel_rfl)) (fun _ _ _ h => h) (Or.inl ⟨by rfl, ?_⟩) ?_ ?_
                rotate_left
                ·intro w'
                 go_simp
                 with_reducible rfl
                rotate_left
                ·simp only [Act.put, lA, lB, lC, aT, aU]
                 rfl
                refine take_ (i := 17) (N := some 53) (v := ?_) (a' := ?_) #[true, true, true, true, true, true, true, true, true, true, true, true, true, true, true, true, true, true, false, false, false, false, false, false, false, false, false] rfl rfl (bP HT_.out HW_.out (by kernel_rfl)) (fun _ _ _ h => h) (Or.inl ⟨by rfl, ?_⟩) hHeld ?_ ?_
                rotate_left
                ·rintro w' ⟨s0, s1, s2, s3, s4⟩
                 go_simp
                 with_reducible rfl
                rotate_left
                ·simp only [Act.put, lA, lB, lC, aT, aU]
                 rfl
                refine one_ (i := 18) (N := some 54) #[true, true, true, true, true, true, true, true, true, true, true, true, true, true, true, true, true, true, true, false, false, false, false, false, false, false, false] rfl rfl (one_of HT_.out (by kernel_rfl)) (by decide) (fun K hK => ?_)
                refine goes_ Try.func29 (by kernel_rfl) rfl #[.agg #[.slice A374_0 ((rd_T32 l0_1 x31_2).f0).length c374_0]] (by rfl) rfl rfl (by (try simp only [List.map_toArray, List.map_cons, List.map_nil]); first | done | rfl | (simp only [List.length_drop, List.length_take]; rfl)) ?_
                with_reducible refine (impl_NodeOk.calls k2 _ _ ((rd_T32 l0_1 x31_2).f0) true _ ?side1 ?side2 A28.out).mono ?_
                (case side1 => repeat (first | exact (Kd.bJ HR374_0.out HB.out) | (with_reducible refine Kd.bD ?_ _) | (with_reducible refine Kd.bE ?_ _) | (with_reducible refine Kd.bK ?_)))
                (case side2 => exact HC374_0.out)
                rintro e w33 ⟨rfl, hb⟩
                refine ⟨_, rfl, ?_⟩
                have n0_ := aA.mk (aY (g := gb371) (o := .cells #[.slice (some ad376) l0_0.length c0_0, .slice (some ad374) l0_1.length c0_1] 58 (0, 0)) (by (with_reducible repeat (first | refine aK ?_ _ | refine aN ?_ | refine aM ?_ _)); exact BK371.out) hb)
                have n1_ := aA.mk (aY (g := gb375) (o := .cells #[.slice A374_0 ((rd_T32 l0_1 x31_2).f0).length c374_0] 32 (0, 0)) (by (with_reducible repeat (first | refine aK ?_ _ | refine aN ?_ | refine aM ?_ _)); exact BK375.out) hb)
                have n2_ := aA.mk (aV (by repeat (first | (with_reducible first | exact HB.out | apply aE | apply aC | apply aD | refine aJ ?_ GE371.out | refine aJ ?_ GE375.out) | exact HB.out)) hb)
                clear BK371
                clear BK375
                clear HB
                have BK371 := n0_
                have BK375 := n1_
                have HB := n2_
                clear n0_ n1_ n2_
                (try clear hb)
                (try clear hb2)
                (try clear hk)
                (try clear hi)
                refine hK.out _ _ ⟨(aG BK371.out 0).trans rfl, (aG BK371.out 1).trans rfl, (aG BK375.out 0).trans rfl, ((HB.out.cell (lD w _ hw376_0)).trans hw376_0), ((HB.out.cell (lD w _ hw377_0)).trans hw377_0)⟩ (fun hHeld => ?_)
                clear hK K
                refine norm_ (a' := ?_) ?_ ?_
                rotate_left
                ·show Act.put _ (some 54) _ = _
                 simp only [Act.put, lA, lB, lC, aT, aU]
                 rfl
                refine aX (i := 19) (N := some 55) (v := ?_) (a' := ?_) #[true, true, true, true, true, true, true, true, true, true, true, true, true, true, true, true, true, true, true, true, false, false, false, false, false, false, false] rfl rfl (aW HT_.out (by kernel_rfl)) (fun _ _ _ h => h) (Or.inl ⟨by rfl, ?_⟩) ?_ ?_
                rotate_left
                ·intro w'
                 go_simp
                 with_reducible rfl
                rotate_left
                ·simp only [Act.put, lA, lB, lC, aT, aU]
                 rfl
                refine aX (i := 20) (N := some 56) (v := ?_) (a' := ?_) #[true, true, true, true, true, true, true, true, true, true, true, true, true, true, true, true, true, true, true, true, true, false, false, false, false, false, false] rfl rfl (aW HT_.out (by kernel_rfl)) (fun _ _ _ h => h) (Or.inl ⟨by rfl, ?_⟩) ?_ ?_
                rotate_left
                ·intro w'
                 go_simp
                 with_reducible rfl
                rotate_left
                ·simp only [Act.put, lA, lB, lC, aT, aU]
                 rfl
                refine aX (i := 21) (N := some 57) (v := ?_) (a' := ?_) #[true, true, true, true, true, true, true, true, true, true, true, true, true, true, true, true, true, true, true, true, true, true, false, false, false, false, false] rfl rfl (aW HT_.out (by kernel_rfl)) (fun _ _ _ h => h) (Or.inl ⟨by rfl, ?_⟩) ?_ ?_
                rotate_left
                ·intro w'
                 go_simp
                 with_reducible rfl
                rotate_left
                ·simp only [Act.put, lA, lB, lC, aT, aU]
                 rfl
                refine aX (i := 23) (N := some 59) (v := ?_) (a' := ?_) #[true, true, true, true, true, true, true, true, true, true, true, true, true, true, true, true, true, true, true, true, true, true, false, true, false, false, false] rfl rfl (aW HT_.out (by kernel_rfl)) (fun _ _ _ h => h) (Or.inl ⟨by rfl, ?_⟩) ?_ ?_
                rotate_left
                ·intro w'
                 go_simp
                 with_reducible rfl
                rotate_left
                ·simp only [Act.put, lA, lB, lC, aT, aU]
                 rfl
                refine take_ (i := 22) (N := some 58) (v := ?_) (a' := ?_) #[true, true, true, true, true, true, true, true, true, true, true, true, true, true, true, true, true, true, true, true, true, true, true, true, false, false, false] rfl rfl (bP HT_.out HW_.out (by kernel_rfl)) (fun _ _ _ h => h) (Or.inl ⟨by rfl, ?_⟩) hHeld ?_ ?_
                rotate_left
                ·rintro w' ⟨s0, s1, s2, s3, s4⟩
                 go_simp
                 with_reducible rfl
                rotate_left
                ·simp only [Act.put, lA, lB, lC, aT, aU]
                 rfl
                refine one_ (i := 24) (N := some 60) #[true, true, true, true, true, true, true, true, true, true, true, true, true, true, true, true, true, true, true, true, true, true, true, true, true, false, false] rfl rfl (one_of HT_.out (by kernel_rfl)) (by decide) (fun K hK => ?_)
                refine goes_ Try.func88 (by kernel_rfl) rfl #[.agg #[.slice (some ad376) l0_0.length c0_0, .slice (some ad374) l0_1.length c0_1], .int .i64 x31_2] (by rfl) rfl rfl (by (try simp only [List.map_toArray, List.map_cons, List.map_nil]); first | done | rfl | (simp only [List.length_drop, List.length_take]; rfl)) ?_
                with_reducible refine (impl_inBounds.calls k2 _ _ l0_0 _ _ l0_1 x31_2 t379 _ ?side1 ?side2 ?side3 ?side4 A30.out).mono ?_
                (case side1 => repeat (first | exact (Kd.bJ HR0_0.out HB.out) | (with_reducible refine Kd.bD ?_ _) | (with_reducible refine Kd.bE ?_ _) | (with_reducible refine Kd.bK ?_)))
                (case side2 => exact HC0_0.out)
                (case side3 => repeat (first | exact (Kd.bJ HR0_1.out HB.out) | (with_reducible refine Kd.bD ?_ _) | (with_reducible refine Kd.bE ?_ _) | (with_reducible refine Kd.bK ?_)))
                (case side4 => exact HC0_1.out)
                rintro e w34 ⟨rfl, hb⟩
                refine ⟨_, rfl, ?_⟩
                have n0_ := aA.mk (aY (g := gb371) (o := .cells #[.slice (some ad376) l0_0.length c0_0, .slice (some ad374) l0_1.length c0_1] 58 (0, 0)) (by (with_reducible repeat (first | refine aK ?_ _ | refine aN ?_ | refine aM ?_ _)); exact BK371.out) hb)
                have n1_ := aA.mk (aY (g := gb375) (o := .cells #[.slice A374_0 ((rd_T32 l0_1 x31_2).f0).length c374_0] 32 (0, 0)) (by (with_reducible repeat (first | refine aK ?_ _ | refine aN ?_ | refine aM ?_ _)); exact BK375.out) hb)
                have n2_ := aA.mk (aV (by repeat (first | (with_reducible first | exact HB.out | apply aE | apply aC | apply aD | refine aJ ?_ GE371.out | refine aJ ?_ GE375.out) | exact HB.out)) hb)
                clear BK371
                clear BK375
                clear HB
                have BK371 := n0_
                have BK375 := n1_
                have HB := n2_
                clear n0_ n1_ n2_
                (try clear hb)
                (try clear hb2)
                (try clear hk)
                (try clear hi)
                refine hK.out _ _ ⟨(aG BK371.out 0).trans rfl, (aG BK371.out 1).trans rfl, (aG BK375.out 0).trans rfl, ((HB.out.cell (lD w _ hw376_0)).trans hw376_0), ((HB.out.cell (lD w _ hw377_0)).trans hw377_0)⟩ (fun hHeld => ?_)
                clear hK K
                refine norm_ (a' := ?_) ?_ ?_
                rotate_left
                ·show Act.put _ (some 60) _ = _
                 simp only [Act.put, lA, lB, lC, aT, aU]
                 rfl
                refine aX (i := 25) (N := some 61) (v := ?_) (a' := ?_) #[true, true, true, true, true, true, true, true, true, true, true, true, true, true, true, true, true, true, true, true, true, true, true, true, true, true, false] rfl rfl (aW HT_.out (by kernel_rfl)) (fun _ _ _ h => h) (Or.inl ⟨by rfl, ?_⟩) ?_ ?_
                rotate_left
                ·intro w'
                 go_simp
                 with_reducible rfl
                rotate_left
                ·simp only [Act.put, lA, lB, lC, aT, aU]
                 rfl
                refine aX (i := 26) (N := some 62) (v := ?_) (a' := ?_) #[true, true, true, true, true, true, true, true, true, true, true, true, true, true, true, true, true, true, true, true, true, true, true, true, true, true, true] rfl rfl (aW HT_.out (by kernel_rfl)) (fun _ _ _ h => h) (Or.inl ⟨by rfl, ?_⟩) ?_ ?_
                rotate_left
                ·intro w'
                 go_simp
                 with_reducible rfl
                rotate_left
                ·simp only [Act.put, lA, lB, lC, aT, aU]
                 rfl
                refine done_ (done_of HT_.out (by kernel_rfl)) ?_
                try go_wp2
                go_meet
                case rel => exact ⟨_, (!t379), (by first | rfl | (simp; done) | (simp [*]; done)), H', ⟨by have := HJ1.out; have := HK2.out; first | omega | exact Nat.le_refl _⟩, ⟨by (with_reducible repeat (first | refine aK ?_ _ | refine aN ?_ | refine aM ?_ _)); exact BK371.out⟩, ⟨by (with_reducible repeat (first | refine aK ?_ _ | refine aN ?_ | refine aM ?_ _)); exact BK375.out⟩, ⟨by repeat (first | (with_reducible first | exact HB.out | apply aE | apply aC | apply aD | refine aJ ?_ GE371.out | refine aJ ?_ GE375.out) | exact HB.out)⟩⟩
               ·replace c29 := Bool.eq_false_iff.mpr c29
                subst c29
                have H1 : (impl_TreeOk.j2 k2 x3_2 x31_2 l0_1 (l0_1.length : Int) x31_2 true l0_0 l0_1 ((rd_T32 l0_1 x31_2).f0)) = some r := by rw [if_neg (show ¬ (false = true) by decide)] at H; exact H
                clear H
                have H := H1
                clear H1
                have H' := aA.mk H
                clear H
                try go_wp2
                have n0_ : aA ((w17.setCell ⟨gb375, 0, none⟩ (.slice A374_0 ((rd_T32 l0_1 x31_2).f0).length c374_0)).heap[gb371]? = some (.cells #[.slice A0_0 l0_0.length c0_0, .slice (some ad374) l0_1.length c0_1] 58 (0, 0))) := ⟨by (with_reducible repeat (first | refine aK ?_ _ | refine aN ?_ | refine aM ?_ _)); refine blk_far ?_ NB371_375.out _; (with_reducible repeat (first | refine aK ?_ _ | refine aN ?_ | refine aM ?_ _)); exact BK371.out⟩
                have n1_ : aA ((w17.setCell ⟨gb375, 0, none⟩ (.slice A374_0 ((rd_T32 l0_1 x31_2).f0).length c374_0)).heap[gb375]? = some (.cells #[.slice A374_0 ((rd_T32 l0_1 x31_2).f0).length c374_0] 32 (0, 0))) := ⟨by (with_reducible repeat (first | refine aK ?_ _ | refine aN ?_ | refine aM ?_ _)); refine bM (cs := #[.slice none 0 0]) ?_ 0 _ rfl; (with_reducible repeat (first | refine aK ?_ _ | refine aN ?_ | refine aM ?_ _)); exact BK375.out⟩
                have n2_ : aA (Below w.heap.size w (w17.setCell ⟨gb375, 0, none⟩ (.slice A374_0 ((rd_T32 l0_1 x31_2).f0).length c374_0))) := ⟨by repeat (first | (with_reducible first | exact HB.out | apply aE | apply aC | apply aD | refine aJ ?_ GE371.out | refine aJ ?_ GE375.out) | exact HB.out)⟩
                (try clear BK371)
                (try clear BK375)
                (try clear HB)
                generalize (w17.setCell ⟨gb375, 0, none⟩ (.slice A374_0 ((rd_T32 l0_1 x31_2).f0).length c374_0)) = w35 at n0_ n1_ n2_ ⊢
                have BK371 := n0_
                have BK375 := n1_
                have HB := n2_
                clear n0_ n1_ n2_
                have n0_ := aA.mk (aN BK371.out)
                have n1_ := aA.mk (aN BK375.out)
                have n2_ := aA.mk (aD HB.out)
                clear BK371
                clear BK375
                clear HB
                have BK371 := n0_
                have BK375 := n1_
                have HB := n2_
                clear n0_ n1_ n2_
                have p376 : 0 ≤ ((ji21) : Int) := lE (by first | (with_reducible assumption) | assumption)
                have q376 : (ji21) < (l0_0.length : Int) := lE (by first | (with_reducible assumption) | assumption)
                obtain ⟨ad376, e376, hx376_0⟩ := Kd.at_int HR0_0.out (ji21) p376 q376
                have hw376_0 := hx376_0
                cases e376
                replace hx376_0 := (HB.out.cell (lD w _ hx376_0)).trans hx376_0
                replace p376 := eq_true p376
                replace q376 := eq_true q376
                have p377 : 0 ≤ (x31_2 : Int) := lE (by first | (with_reducible assumption) | assumption)
                have q377 : x31_2 < (l0_0.length : Int) := lE (by first | (with_reducible assumption) | assumption)
                obtain ⟨ad377, e377, hx377_0⟩ := Kd.at_int HR0_0.out x31_2 p377 q377
                have hw377_0 := hx377_0
                obtain rfl : ad376 = ad377 := (by injection e377)
                replace hx377_0 := (HB.out.cell (lD w _ hx377_0)).trans hx377_0
                replace p377 := eq_true p377
                replace q377 := eq_true q377
                refine start_ (n := 27) (S := fun w' => w'.cell? ⟨gb371, 0, none⟩ = some (.slice (some ad376) l0_0.length c0_0) ∧ w'.cell? ⟨gb371, 1, none⟩ = some (.slice (some ad374) l0_1.length c0_1) ∧ w'.cell? ⟨gb375, 0, none⟩ = some (.slice A374_0 ((rd_T32 l0_1 x31_2).f0).length c374_0) ∧ w'.cell? (ad376.add ((ji21)).toNat) = some (.int .i64 (rd l0_0 (ji21))) ∧ w'.cell? (ad376.add (x31_2).toNat) = some (.int .i64 (rd l0_0 x31_2))) (ds := []) #[false, false, false, false, false, false, false, false, false, false, false, false, false, false, false, false, false, false, false, false, false, false, false, false, false, false, false] (by kernel_rfl) rfl rfl ⟨(aG BK371.out 0).trans rfl, (aG BK371.out 1).trans rfl, (aG BK375.out 0).trans rfl, ((HB.out.cell (lD w _ hw376_0)).trans hw376_0), ((HB.out.cell (lD w _ hw377_0)).trans hw377_0)⟩ (fun hHeld => ?_); refine with_tabW impl_TreeOk.tab7 impl_TreeOk.bits7 (fun HT_ HW_ => ?_)
                generalize w35.drew = w36 at BK371 BK375 HB hx376_0 hx377_0 hHeld ⊢
                refine aX (i := 0) (N := some 36) (v := ?_) (a' := ?_) #[true, false, false, false, false, false, false, false, false, false, false, false, false, false, false, false, false, false, false, false, false, false, false, false, false, false, false] rfl rfl (aW HT_.out (by kernel_rfl)) (fun _ _ _ h => h) (Or.inl ⟨by rfl, ?_⟩) ?_ ?_
                rotate_left
                ·intro w'
                 go_simp
                 with_reducible rfl
                rotate_left
                ·simp only [Act.put, lA, lB, lC, aT, aU]
                 rfl
                refine aX (i := 1) (N := some 37) (v := ?_) (a' := ?_) #[true, true, false, false, false, false, false, false, false, false, false, false, false, false, false, false, false, false, false, false, false, false, false, false, false, false, false] rfl rfl (aW HT_.out (by kernel_rfl)) (fun _ _ _ h => h) (Or.inl ⟨by rfl, ?_⟩) ?_ ?_
                rotate_left
                ·intro w'
                 go_simp
                 with_reducible rfl
                rotate_left
                ·simp only [Act.put, lA, lB, lC, aT, aU]
                 rfl
                refine aX (i := 2) (N := some 38) (v := ?_) (a' := ?_) #[true, true, true, false, false, false, false, false, false, false, false, false, false, false, false, false, false, false, false, false, false, false, false, false, false, false, false] rfl rfl (aW HT_.out (by kernel_rfl)) (fun _ _ _ h => h) (Or.inl ⟨by rfl, ?_⟩) ?_ ?_
                rotate_left
                ·intro w'
                 go_simp
                 with_reducible rfl
                rotate_left
                ·simp only [Act.put, lA, lB, lC, aT, aU]
                 rfl
                refine aX (i := 3) (N := some 39) (v := ?_) (a' := ?_) #[true, true, true, true, false, false, false, false, false, false, false, false, false, false, false, false, false, false, false, false, false, false, false, false, false, false, false] rfl rfl (aW HT_.out (by kernel_rfl)) (fun _ _ _ h => h) (Or.inl ⟨by rfl, ?_⟩) ?_ ?_
                rotate_left
                ·intro w'
                 go_simp
                 with_reducible rfl
                rotate_left
                ·simp only [Act.put, lA, lB, lC, aT, aU]
                 rfl
                refine aX (i := 5) (N := some 41) (v := ?_) (a' := ?_) #[true, true, true, true, false, true, false, false, false, false, false, false, false, false, false, false, false, false, false, false, false, false, false, false, false, false, false] rfl rfl (aW HT_.out (by kernel_rfl)) (fun _ _ _ h => h) (Or.inl ⟨by rfl, ?_⟩) ?_ ?_
                rotate_left
                ·intro w'
                 go_simp
                 with_reducible rfl
                rotate_left
                ·simp only [Act.put, lA, lB, lC, aT, aU]
                 rfl
                refine aX (i := 6) (N := some 42) (v := ?_) (a' := ?_) #[true, true, true, true, false, true, true, false, false, false, false, false, false, false, false, false, false, false, false, false, false, false, false, false, false, false, false] rfl rfl (aW HT_.out (by kernel_rfl)) (fun _ _ _ h => h) (Or.inl ⟨by rfl, ?_⟩) ?_ ?_
                rotate_left
                ·intro w'
                 go_simp
                 with_reducible rfl
                rotate_left
                ·simp only [Act.put, lA, lB, lC, aT, aU]
                 rfl
                refine aX (i := 9) (N := some 45) (v := ?_) (a' := ?_) #[true, true, true, true, false, true, true, false, false, true, false, false, false, false, false, false, false, false, false, false, false, false, false, false, false, false, false] rfl rfl (aW HT_.out (by kernel_rfl)) (fun _ _ _ h => h) (Or.inl ⟨by rfl, ?_⟩) ?_ ?_
                rotate_left
                ·intro w'
                 go_simp
                 with_reducible rfl
                rotate_left
                ·simp only [Act.put, lA, lB, lC, aT, aU]
                 rfl
                refine aX (i := 11) (N := some 47) (v := ?_) (a' := ?_) #[true, true, true, true, false, true, true, false, false, true, false, true, false, false, false, false, false, false, false, false, false, false, false, false, false, false, false] rfl rfl (aW HT_.out (by kernel_rfl)) (fun _ _ _ h => h) (Or.inl ⟨by rfl, ?_⟩) ?_ ?_
                rotate_left
                ·intro w'
                 go_simp
                 with_reducible rfl
                rotate_left
                ·simp only [Act.put, lA, lB, lC, aT, aU]
                 rfl
                refine take_ (i := 4) (N := some 40) (v := ?_) (a' := ?_) #[true, true, true, true, true, true, true, false, false, true, false, true, false, false, false, false, false, false, false, false, false, false, false, false, false, false, false] rfl rfl (bP HT_.out HW_.out (by kernel_rfl)) (fun _ _ _ h => h) (Or.inl ⟨by rfl, ?_⟩) hHeld ?_ ?_
                rotate_left
                ·rintro w' ⟨s0, s1, s2, s3, s4⟩
                 go_simp
                 with_reducible rfl
                rotate_left
                ·simp only [Act.put, lA, lB, lC, aT, aU]
                 rfl
                refine aX (i := 7) (N := some 43) (v := ?_) (a' := ?_) #[true, true, true, true, true, true, true, true, false, true, false, true, false, false, false, false, false, false, false, false, false, false, false, false, false, false, false] rfl rfl (aW HT_.out (by kernel_rfl)) (fun _ _ _ h => h) (Or.inl ⟨by rfl, ?_⟩) ?_ ?_
                rotate_left
                ·intro w'
                 go_simp
                 with_reducible rfl
                rotate_left
                ·simp only [Act.put, lA, lB, lC, aT, aU]
                 rfl
                refine take_ (i := 8) (N := some 44) (v := ?_) (a' := ?_) #[true, true, true, true, true, true, true, true, true, true, false, true, false, false, false, false, false, false, false, false, false, false, false, false, false, false, false] rfl rfl (bP HT_.out HW_.out (by kernel_rfl)) (fun _ _ _ h => h) (Or.inl ⟨by rfl, ?_⟩) hHeld ?_ ?_
                rotate_left
                ·rintro w' ⟨s0, s1, s2, s3, s4⟩
                 go_simp
                 with_reducible rfl
                rotate_left
                ·simp only [Act.put, lA, lB, lC, aT, aU]
                 rfl
                refine take_ (i := 10) (N := some 46) (v := ?_) (a' := ?_) #[true, true, true, true, true, true, true, true, true, true, true, true, false, false, false, false, false, false, false, false, false, false, false, false, false, false, false] rfl rfl (bP HT_.out HW_.out (by kernel_rfl)) (fun _ _ _ h => h) (Or.inl ⟨by rfl, ?_⟩) hHeld ?_ ?_
                rotate_left
                ·rintro w' ⟨s0, s1, s2, s3, s4⟩
                 go_simp
                 with_reducible rfl
                rotate_left
                ·simp only [Act.put, lA, lB, lC, aT, aU]
                 rfl
                refine aX (i := 12) (N := some 48) (v := ?_) (a' := ?_) #[true, true, true, true, true, true, true, true, true, true, true, true, true, false, false, false, false, false, false, false, false, false, false, false, false, false, false] rfl rfl (aW HT_.out (by kernel_rfl)) (fun _ _ _ h => h) (Or.inl ⟨by rfl, ?_⟩) ?_ ?_
                rotate_left
                ·intro w'
                 go_simp
                 with_reducible rfl
                rotate_left
                ·simp only [Act.put, lA, lB, lC, aT, aU]
                 rfl
                refine take_ (i := 13) (N := some 49) (v := ?_) (a' := ?_) #[true, true, true, true, true, true, true, true, true, true, true, true, true, true, false, false, false, false, false, false, false, false, false, false, false, false, false] rfl rfl (bP HT_.out HW_.out (by kernel_rfl)) (fun _ _ _ h => h) (Or.inl ⟨by rfl, ?_⟩) hHeld ?_ ?_
                rotate_left
                ·rintro w' ⟨s0, s1, s2, s3, s4⟩
                 go_simp
                 with_reducible rfl
                rotate_left
                ·simp only [Act.put, lA, lB, lC, aT, aU]
                 rfl
                refine aX (i := 14) (N := some 50) (v := ?_) (a' := ?_) #[true, true, true, true, true, true, true, true, true, true, true, true, true, true, true, false, false, false, false, false, false, false, false, false, false, false, false] rfl rfl (aW HT_.out (by kernel_rfl)) (fun _ _ _ h => h) (Or.inl ⟨by rfl, ?_⟩) ?_ ?_
                rotate_left
                ·intro w'
                 go_simp
                 with_reducible rfl
                rotate_left
                ·simp only [Act.put, lA, lB, lC, aT, aU]
                 rfl
                refine aX (i := 15) (N := some 51) (v := ?_) (a' := ?_) #[true, true, true, true, true, true, true, true, true, true, true, true, true, true, true, true, false, false, false, false, false, false, false, false, false, false, false] rfl rfl (aW HT_.out (by kernel_rfl)) (fun _ _ _ h => h) (Or.inl ⟨by rfl, ?_⟩) ?_ ?_
                rotate_left
                ·intro w'
                 go_simp
                 with_reducible rfl
                rotate_left
                ·simp only [Act.put, lA, lB, lC, aT, aU]
                 rfl
                refine aX (i := 16) (N := some 52) (v := ?_) (a' := ?_) #[true, true, true, true, true, true, true, true, true, true, true, true, true, true, true, true, true, false, false, false, false, false, false, false, false, false, false] rfl rfl (aW HT_.out (by kernel_rfl)) (fun _ _ _ h => h) (Or.inl ⟨by rfl, ?_⟩) ?_ ?_
                rotate_left
                ·intro w'
                 go_simp
                 with_reducible rfl
                rotate_left
                ·simp only [Act.put, lA, lB, lC, aT, aU]
                 rfl
                refine take_ (i := 17) (N := some 53) (v := ?_) (a' := ?_) #[true, true, true, true, true, true, true, true, true, true, true, true, true, true, true, true, true, true, false, false, false, false, false, false, false, false, false] rfl rfl (bP HT_.out HW_.out (by kernel_rfl)) (fun _ _ _ h => h) (Or.inl ⟨by rfl, ?_⟩) hHeld ?_ ?_
                rotate_left
                ·rintro w' ⟨s0, s1, s2, s3, s4⟩
                 go_simp
                 with_reducible rfl
                rotate_left
                ·simp only [Act.put, lA, lB, lC, aT, aU]
                 rfl
                refine one_ (i := 18) (N := some 54) #[true, true, true, true, true, true, true, true, true, true, true, true, true, true, true, true, true, true, true, false, false, false, false, false, false, false, false] rfl rfl (one_of HT_.out (by kernel_rfl)) (by decide) (fun K hK => ?_)
                refine goes_ Try.func29 (by kernel_rfl) rfl #[.agg #[.slice A374_0 ((rd_T32 l0_1 x31_2).f0).length c374_0]] (by rfl) rfl rfl (by (try simp only [List.map_toArray, List.map_cons, List.map_nil]); first | done | rfl | (simp only [List.length_drop, List.length_take]; rfl)) ?_
                with_reducible refine (impl_NodeOk.calls k2 _ _ ((rd_T32 l0_1 x31_2).f0) false _ ?side1 ?side2 A28.out).mono ?_
                (case side1 => repeat (first | exact (Kd.bJ HR374_0.out HB.out) | (with_reducible refine Kd.bD ?_ _) | (with_reducible refine Kd.bE ?_ _) | (with_reducible refine Kd.bK ?_)))
                (case side2 => exact HC374_0.out)
                rintro e w37 ⟨rfl, hb⟩
                refine ⟨_, rfl, ?_⟩
                have n0_ := aA.mk (aY (g := gb371) (o := .cells #[.slice (some ad376) l0_0.length c0_0, .slice (some ad374) l0_1.length c0_1] 58 (0, 0)) (by (with_reducible repeat (first | refine aK ?_ _ | refine aN ?_ | refine aM ?_ _)); exact BK371.out) hb)
                have n1_ := aA.mk (aY (g := gb375) (o := .cells #[.slice A374_0 ((rd_T32 l0_1 x31_2).f0).length c374_0] 32 (0, 0)) (by (with_reducible repeat (first | refine aK ?_ _ | refine aN ?_ | refine aM ?_ _)); exact BK375.out) hb)
                have n2_ := aA.mk (aV (by repeat (first | (with_reducible first | exact HB.out | apply aE | apply aC | apply aD | refine aJ ?_ GE371.out | refine aJ ?_ GE375.out) | exact HB.out)) hb)
                clear BK371
                clear BK375
                clear HB
                have BK371 := n0_
                have BK375 := n1_
                have HB := n2_
                clear n0_ n1_ n2_
                (try clear hb)
                (try clear hb2)
                (try clear hk)
                (try clear hi)
                refine hK.out _ _ ⟨(aG BK371.out 0).trans rfl, (aG BK371.out 1).trans rfl, (aG BK375.out 0).trans rfl, ((HB.out.cell (lD w _ hw376_0)).trans hw376_0), ((HB.out.cell (lD w _ hw377_0)).trans hw377_0)⟩ (fun hHeld => ?_)
                clear hK K
                refine norm_ (a' := ?_) ?_ ?_
                rotate_left
                ·show Act.put _ (some 54) _ = _
                 simp only [Act.put, lA, lB, lC, aT, aU]
                 rfl
                refine aX (i := 19) (N := some 55) (v := ?_) (a' := ?_) #[true, true, true, true, true, true, true, true, true, true, true, true, true, true, true, true, true, true, true, true, false, false, false, false, false, false, false] rfl rfl (aW HT_.out (by kernel_rfl)) (fun _ _ _ h => h) (Or.inl ⟨by rfl, ?_⟩) ?_ ?_
                rotate_left
                ·intro w'
                 go_simp
                 with_reducible rfl
                rotate_left
                ·simp only [Act.put, lA, lB, lC, aT, aU]
                 rfl
                refine aX (i := 20) (N := some 56) (v := ?_) (a' := ?_) #[true, true, true, true, true, true, true, true, true, true, true, true, true, true, true, true, true, true, true, true, true, false, false, false, false, false, false] rfl rfl (aW HT_.out (by kernel_rfl)) (fun _ _ _ h => h) (Or.inl ⟨by rfl, ?_⟩) ?_ ?_
                rotate_left
                ·intro w'
                 go_simp
                 with_reducible rfl
                rotate_left
                ·simp only [Act.put, lA, lB, lC, aT, aU]
                 rfl
                refine aX (i := 21) (N := some 57) (v := ?_) (a' := ?_) #[true, true, true, true, true, true, true, true, true, true, true, true, true, true, true, true, true, true, true, true, true, true, false, false, false, false, false] rfl rfl (aW HT_.out (by kernel_rfl)) (fun _ _ _ h => h) (Or.inl ⟨by rfl, ?_⟩) ?_ ?_
                rotate_left
                ·intro w'
                 go_simp
                 with_reducible rfl
                rotate_left
                ·simp only [Act.put, lA, lB, lC, aT, aU]
                 rfl
                refine aX (i := 22) (N := some 58) (v := undef) (a' := ?_) #[true, true, true, true, true, true, true, true, true, true, true, true, true, true, true, true, true, true, true, true, true, true, true, false, false, false, false] rfl rfl (aW HT_.out (by kernel_rfl)) (fun _ _ _ h => h) (Or.inr ⟨by rfl, rfl⟩) ?_ ?_
                rotate_left
                ·simp only [Act.put, lA, lB, lC, aT, aU]
                 rfl
                refine aX (i := 23) (N := some 59) (v := undef) (a' := ?_) #[true, true, true, true, true, true, true, true, true, true, true, true, true, true, true, true, true, true, true, true, true, true, true, true, false, false, false] rfl rfl (aW HT_.out (by kernel_rfl)) (fun _ _ _ h => h) (Or.inr ⟨by rfl, rfl⟩) ?_ ?_
                rotate_left
                ·simp only [Act.put, lA, lB, lC, aT, aU]
                 rfl
                refine aX (i := 24) (N := some 60) (v := undef) (a' := ?_) #[true, true, true, true, true, true, true, true, true, true, true, true, true, true, true, true, true, true, true, true, true, true, true, true, true, false, false] rfl rfl (aW HT_.out (by kernel_rfl)) (fun _ _ _ h => h) (Or.inr ⟨by rfl, rfl⟩) ?_ ?_
                rotate_left
                ·simp only [Act.put, lA, lB, lC, aT, aU]
                 rfl
                refine aX (i := 25) (N := some 61) (v := undef) (a' := ?_) #[true, true, true, true, true, true, true, true, true, true, true, true, true, true, true, true, true, true, true, true, true, true, true, true, true, true, false] rfl rfl (aW HT_.out (by kernel_rfl)) (fun _ _ _ h => h) (Or.inr ⟨by rfl, rfl⟩) ?_ ?_
                rotate_left
                ·simp only [Act.put, lA, lB, lC, aT, aU]
                 rfl
                refine aX (i := 26) (N := some 62) (v := ?_) (a' := ?_) #[true, true, true, true, true, true, true, true, true, true, true, true, true, true, true, true, true, true, true, true, true, true, true, true, true, true, true] rfl rfl (aW HT_.out (by kernel_rfl)) (fun _ _ _ h => h) (Or.inl ⟨by rfl, ?_⟩) ?_ ?_
                rotate_left
                ·intro w'
                 go_simp
                 with_reducible rfl
                rotate_left
                ·simp only [Act.put, lA, lB, lC, aT, aU]
                 rfl
                refine done_ (done_of HT_.out (by kernel_rfl)) ?_
                try go_wp2
                go_meet
                case rel => exact ⟨_, (true), (by first | rfl | (simp; done) | (simp [*]; done)), H', ⟨by have := HJ1.out; have := HK2.out; first | omega | exact Nat.le_refl _⟩, ⟨by (with_reducible repeat (first | refine aK ?_ _ | refine aN ?_ | refine aM ?_ _)); exact BK371.out⟩, ⟨by (with_reducible repeat (first | refine aK ?_ _ | refine aN ?_ | refine aM ?_ _)); exact BK375.out⟩, ⟨by repeat (first | (with_reducible first | exact HB.out | apply aE | apply aC | apply aD | refine aJ ?_ GE371.out | refine aJ ?_ GE375.out) | exact HB.out)⟩⟩
             ·rw [if_neg c24] at H
              exact absurd H (by simp)
            ·rw [if_neg c23] at H
             exact absurd H (by simp)
           ·rw [if_neg c22] at H
            exact absurd H (by simp)
          ·rw [if_neg c20] at H
           have c20b0 : decide (0 < x31_2) = false := decide_eq_false c20
           clear c20
           (first | rw [c20b0] | (simp only [aT, aU]; rw [c20b0]) | skip)
           replace H := lF H
           obtain ⟨t380, A380, H⟩ := H
           replace H : (if t380 = true then ((impl_inBounds.f k2 l0_0 l0_1 x31_2).bind fun t381 => (impl_TreeOk.j2 k2 x3_2 x31_2 l0_1 (l0_1.length : Int) x31_2 (!t381) l0_0 l0_1 ((rd_T32 l0_1 x31_2).f0))) else (impl_TreeOk.j2 k2 x3_2 x31_2 l0_1 (l0_1.length : Int) x31_2 true l0_0 l0_1 ((rd_T32 l0_1 x31_2).f0))) = some r := H
           have A38 := aA.mk A380
           clear A380
           by_cases c39 : t380 = true
           ·subst c39
            have H1 : ((impl_inBounds.f k2 l0_0 l0_1 x31_2).bind fun t381 => (impl_TreeOk.j2 k2 x3_2 x31_2 l0_1 (l0_1.length : Int) x31_2 (!t381) l0_0 l0_1 ((rd_T32 l0_1 x31_2).f0))) = some r := by rw [if_pos rfl] at H; exact H
            clear H
            have H := H1
            clear H1
            replace H := lF H
            obtain ⟨t381, A400, H⟩ := H
            replace H : (impl_TreeOk.j2 k2 x3_2 x31_2 l0_1 (l0_1.length : Int) x31_2 (!t381) l0_0 l0_1 ((rd_T32 l0_1 x31_2).f0)) = some r := H
            have A40 := aA.mk A400
            clear A400
            have H' := aA.mk H
            clear H
            try go_wp2
            have n0_ : aA ((w17.setCell ⟨gb375, 0, none⟩ (.slice A374_0 ((rd_T32 l0_1 x31_2).f0).length c374_0)).heap[gb371]? = some (.cells #[.slice A0_0 l0_0.length c0_0, .slice (some ad374) l0_1.length c0_1] 58 (0, 0))) := ⟨by (with_reducible repeat (first | refine aK ?_ _ | refine aN ?_ | refine aM ?_ _)); refine blk_far ?_ NB371_375.out _; (with_reducible repeat (first | refine aK ?_ _ | refine aN ?_ | refine aM ?_ _)); exact BK371.out⟩
            have n1_ : aA ((w17.setCell ⟨gb375, 0, none⟩ (.slice A374_0 ((rd_T32 l0_1 x31_2).f0).length c374_0)).heap[gb375]? = some (.cells #[.slice A374_0 ((rd_T32 l0_1 x31_2).f0).length c374_0] 32 (0, 0))) := ⟨by (with_reducible repeat (first | refine aK ?_ _ | refine aN ?_ | refine aM ?_ _)); refine bM (cs := #[.slice none 0 0]) ?_ 0 _ rfl; (with_reducible repeat (first | refine aK ?_ _ | refine aN ?_ | refine aM ?_ _)); exact BK375.out⟩
            have n2_ : aA (Below w.heap.size w (w17.setCell ⟨gb375, 0, none⟩ (.slice A374_0 ((rd_T32 l0_1 x31_2).f0).length c374_0))) := ⟨by repeat (first | (with_reducible first | exact HB.out | apply aE | apply aC | apply aD | refine aJ ?_ GE371.out | refine aJ ?_ GE375.out) | exact HB.out)⟩
            (try clear BK371)
            (try clear BK375)
            (try clear HB)
            generalize (w17.setCell ⟨gb375, 0, none⟩ (.slice A374_0 ((rd_T32 l0_1 x31_2).f0).length c374_0)) = w41 at n0_ n1_ n2_ ⊢
            have BK371 := n0_
            have BK375 := n1_
            have HB := n2_
            clear n0_ n1_ n2_
            have n0_ := aA.mk (aN BK371.out)
            have n1_ := aA.mk (aN BK375.out)
            have n2_ := aA.mk (aD HB.out)
            clear BK371
            clear BK375
            clear HB
            have BK371 := n0_
            have BK375 := n1_
            have HB := n2_
            clear n0_ n1_ n2_
            refine start_ (n := 27) (S := fun w' => w'.cell? ⟨gb375, 0, none⟩ = some (.slice A374_0 ((rd_T32 l0_1 x31_2).f0).length c374_0) ∧ w'.cell? ⟨gb371, 0, none⟩ = some (.slice A0_0 l0_0.length c0_0) ∧ w'.cell? ⟨gb371, 1, none⟩ = some (.slice (some ad374) l0_1.length c0_1)) (ds := []) #[false, false, false, false, false, false, false, false, false, false, false, false, false, false, false, false, false, false, false, false, false, false, false, false, false, false, false] (by kernel_rfl) rfl rfl ⟨(aG BK375.out 0).trans rfl, (aG BK371.out 0).trans rfl, (aG BK371.out 1).trans rfl⟩ (fun hHeld => ?_); refine with_tabW impl_TreeOk.tab7 impl_TreeOk.bits7 (fun HT_ HW_ => ?_)
            generalize w41.drew = w42 at BK371 BK375 HB hHeld ⊢
            refine aX (i := 0) (N := some 36) (v := ?_) (a' := ?_) #[true, false, false, false, false, false, false, false, false, false, false, false, false, false, false, false, false, false, false, false, false, false, false, false, false, false, false] rfl rfl (aW HT_.out (by kernel_rfl)) (fun _ _ _ h => h) (Or.inl ⟨by rfl, ?_⟩) ?_ ?_
            rotate_left
            ·intro w'
             go_simp
             with_reducible rfl
            rotate_left
            ·simp only [Act.put, lA, lB, lC, aT, aU]
             rfl
            refine aX (i := 1) (N := some 37) (v := ?_) (a' := ?_) #[true, true, false, false, false, false, false, false, false, false, false, false, false, false, false, false, false, false, false, false, false, false, false, false, false, false, false] rfl rfl (aW HT_.out (by kernel_rfl)) (fun _ _ _ h => h) (Or.inl ⟨by rfl, ?_⟩) ?_ ?_
            rotate_left
            ·intro w'
             go_simp
             with_reducible rfl
            rotate_left
            ·simp only [Act.put, lA, lB, lC, aT, aU]
             rfl
            refine aX (i := 2) (N := some 38) (v := ?_) (a' := ?_) #[true, true, true, false, false, false, false, false, false, false, false, false, false, false, false, false, false, false, false, false, false, false, false, false, false, false, false] rfl rfl (aW HT_.out (by kernel_rfl)) (fun _ _ _ h => h) (Or.inl ⟨by rfl, ?_⟩) ?_ ?_
            rotate_left
            ·intro w'
             go_simp
             with_reducible rfl
            rotate_left
            ·simp only [Act.put, lA, lB, lC, aT, aU]
             rfl
            refine aX (i := 3) (N := some 39) (v := undef) (a' := ?_) #[true, true, true, true, false, false, false, false, false, false, false, false, false, false, false, false, false, false, false, false, false, false, false, false, false, false, false] rfl rfl (aW HT_.out (by kernel_rfl)) (fun _ _ _ h => h) (Or.inr ⟨by rfl, rfl⟩) ?_ ?_
            rotate_left
            ·simp only [Act.put, lA, lB, lC, aT, aU]
             rfl
            refine aX (i := 4) (N := some 40) (v := undef) (a' := ?_) #[true, true, true, true, true, false, false, false, false, false, false, false, false, false, false, false, false, false, false, false, false, false, false, false, false, false, false] rfl rfl (aW HT_.out (by kernel_rfl)) (fun _ _ _ h => h) (Or.inr ⟨by rfl, rfl⟩) ?_ ?_
            rotate_left
            ·simp only [Act.put, lA, lB, lC, aT, aU]
             rfl
            refine aX (i := 5) (N := some 41) (v := undef) (a' := ?_) #[true, true, true, true, true, true, false, false, false, false, false, false, false, false, false, false, false, false, false, false, false, false, false, false, false, false, false] rfl rfl (aW HT_.out (by kernel_rfl)) (fun _ _ _ h => h) (Or.inr ⟨by rfl, rfl⟩) ?_ ?_
            rotate_left
            ·simp only [Act.put, lA, lB, lC, aT, aU]
             rfl
            refine aX (i := 6) (N := some 42) (v := undef) (a' := ?_) #[true, true, true, true, true, true, true, false, false, false, false, false, false, false, false, false, false, false, false, false, false, false, false, false, false, false, false] rfl rfl (aW HT_.out (by kernel_rfl)) (fun _ _ _ h => h) (Or.inr ⟨by rfl, rfl⟩) ?_ ?_
            rotate_left
            ·simp only [Act.put, lA, lB, lC, aT, aU]
             rfl
            refine aX (i := 7) (N := some 43) (v := undef) (a' := ?_) #[true, true, true, true, true, true, true, true, false, false, false, false, false, false, false, false, false, false, false, false, false, false, false, false, false, false, false] rfl rfl (aW HT_.out (by kernel_rfl)) (fun _ _ _ h => h) (Or.inr ⟨by rfl, rfl⟩) ?_ ?_
            rotate_left
            ·simp only [Act.put, lA, lB, lC, aT, aU]
             rfl
            refine aX (i := 8) (N := some 44) (v := undef) (a' := ?_) #[true, true, true, true, true, true, true, true, true, false, false, false, false, false, false, false, false, false, false, false, false, false, false, false, false, false, false] rfl rfl (aW HT_.out (by kernel_rfl)) (fun _ _ _ h => h) (Or.inr ⟨by rfl, rfl⟩) ?_ ?_
            rotate_left
            ·simp only [Act.put, lA, lB, lC, aT, aU]
             rfl
            refine aX (i := 9) (N := some 45) (v := undef) (a' := ?_) #[true, true, true, true, true, true, true, true, true, true, false, false, false, false, false, false, false, false, false, false, false, false, false, false, false, false, false] rfl rfl (aW HT_.out (by kernel_rfl)) (fun _ _ _ h => h) (Or.inr ⟨by rfl, rfl⟩) ?_ ?_
            rotate_left
            ·simp only [Act.put, lA, lB, lC, aT, aU]
             rfl
            refine aX (i := 10) (N := some 46) (v := undef) (a' := ?_) #[true, true, true, true, true, true, true, true, true, true, true, false, false, false, false, false, false, false, false, false, false, false, false, false, false, false, false] rfl rfl (aW HT_.out (by kernel_rfl)) (fun _ _ _ h => h) (Or.inr ⟨by rfl, rfl⟩) ?_ ?_
            rotate_left
            ·simp only [Act.put, lA, lB, lC, aT, aU]
             rfl
            refine aX (i := 11) (N := some 47) (v := undef) (a' := ?_) #[true, true, true, true, true, true, true, true, true, true, true, true, false, false, false, false, false, false, false, false, false, false, false, false, false, false, false] rfl rfl (aW HT_.out (by kernel_rfl)) (fun _ _ _ h => h) (Or.inr ⟨by rfl, rfl⟩) ?_ ?_
            rotate_left
            ·simp only [Act.put, lA, lB, lC, aT, aU]
             rfl
            refine aX (i := 12) (N := some 48) (v := undef) (a' := ?_) #[true, true, true, true, true, true, true, true, true, true, true, true, true, false, false, false, false, false, false, false, false, false, false, false, false, false, false] rfl rfl (aW HT_.out (by kernel_rfl)) (fun _ _ _ h => h) (Or.inr ⟨by rfl, rfl⟩) ?_ ?_
            rotate_left
            ·simp only [Act.put, lA, lB, lC, aT, aU]
             rfl
            refine aX (i := 13) (N := some 49) (v := undef) (a' := ?_) #[true, true, true, true, true, true, true, true, true, true, true, true, true, true, false, false, false, false, false, false, false, false, false, false, false, false, false] rfl rfl (aW HT_.out (by kernel_rfl)) (fun _ _ _ h => h) (Or.inr ⟨by rfl, rfl⟩) ?_ ?_
            rotate_left
            ·simp only [Act.put, lA, lB, lC, aT, aU]
             rfl
            refine aX (i := 14) (N := some 50) (v := undef) (a' := ?_) #[true, true, true, true, true, true, true, true, true, true, true, true, true, true, true, false, false, false, false, false, false, false, false, false, false, false, false] rfl rfl (aW HT_.out (by kernel_rfl)) (fun _ _ _ h => h) (Or.inr ⟨by rfl, rfl⟩) ?_ ?_
            rotate_left
            ·simp only [Act.put, lA, lB, lC, aT, aU]
             rfl
            refine aX (i := 15) (N := some 51) (v := ?_) (a' := ?_) #[true, true, true, true, true, true, true, true, true, true, true, true, true, true, true, true, false, false, false, false, false, false, false, false, false, false, false] rfl rfl (aW HT_.out (by kernel_rfl)) (fun _ _ _ h => h) (Or.inl ⟨by rfl, ?_⟩) ?_ ?_
            rotate_left
            ·intro w'
             go_simp
             with_reducible rfl
            rotate_left
            ·simp only [Act.put, lA, lB, lC, aT, aU]
             rfl
            refine aX (i := 16) (N := some 52) (v := ?_) (a' := ?_) #[true, true, true, true, true, true, true, true, true, true, true, true, true, true, true, true, true, false, false, false, false, false, false, false, false, false, false] rfl rfl (aW HT_.out (by kernel_rfl)) (fun _ _ _ h => h) (Or.inl ⟨by rfl, ?_⟩) ?_ ?_
            rotate_left
            ·intro w'
             go_simp
             with_reducible rfl
            rotate_left
            ·simp only [Act.put, lA, lB, lC, aT, aU]
             rfl
            refine take_ (i := 17) (N := some 53) (v := ?_) (a' := ?_) #[true, true, true, true, true, true, true, true, true, true, true, true, true, true, true, true, true, true, false, false, false, false, false, false, false, false, false] rfl rfl (bP HT_.out HW_.out (by kernel_rfl)) (fun _ _ _ h => h) (Or.inl ⟨by rfl, ?_⟩) hHeld ?_ ?_
            rotate_left
            ·rintro w' ⟨s0, s1, s2⟩
             go_simp
             with_reducible rfl
            rotate_left
            ·simp only [Act.put, lA, lB, lC, aT, aU]
             rfl
            refine one_ (i := 18) (N := some 54) #[true, true, true, true, true, true, true, true, true, true, true, true, true, true, true, true, true, true, true, false, false, false, false, false, false, false, false] rfl rfl (one_of HT_.out (by kernel_rfl)) (by decide) (fun K hK => ?_)
            refine goes_ Try.func29 (by kernel_rfl) rfl #[.agg #[.slice A374_0 ((rd_T32 l0_1 x31_2).f0).length c374_0]] (by rfl) rfl rfl (by (try simp only [List.map_toArray, List.map_cons, List.map_nil]); first | done | rfl | (simp only [List.length_drop, List.length_take]; rfl)) ?_
            with_reducible refine (impl_NodeOk.calls k2 _ _ ((rd_T32 l0_1 x31_2).f0) true _ ?side1 ?side2 A38.out).mono ?_
            (case side1 => repeat (first | exact (Kd.bJ HR374_0.out HB.out) | (with_reducible refine Kd.bD ?_ _) | (with_reducible refine Kd.bE ?_ _) | (with_reducible refine Kd.bK ?_)))
            (case side2 => exact HC374_0.out)
            rintro e w43 ⟨rfl, hb⟩
            refine ⟨_, rfl, ?_⟩
            have n0_ := aA.mk (aY (g := gb371) (o := .cells #[.slice A0_0 l0_0.length c0_0, .slice (some ad374) l0_1.length c0_1] 58 (0, 0)) (by (with_reducible repeat (first | refine aK ?_ _ | refine aN ?_ | refine aM ?_ _)); exact BK371.out) hb)
            have n1_ := aA.mk (aY (g := gb375) (o := .cells #[.slice A374_0 ((rd_T32 l0_1 x31_2).f0).length c374_0] 32 (0, 0)) (by (with_reducible repeat (first | refine aK ?_ _ | refine aN ?_ | refine aM ?_ _)); exact BK375.out) hb)
            have n2_ := aA.mk (aV (by repeat (first | (with_reducible first | exact HB.out | apply aE | apply aC | apply aD | refine aJ ?_ GE371.out | refine aJ ?_ GE375.out) | exact HB.out)) hb)
            clear BK371
            clear BK375
            clear HB
            have BK371 := n0_
            have BK375 := n1_
            have HB := n2_
            clear n0_ n1_ n2_
            (try clear hb)
            (try clear hb2)
            (try clear hk)
            (try clear hi)
            refine hK.out _ _ ⟨(aG BK375.out 0).trans rfl, (aG BK371.out 0).trans rfl, (aG BK371.out 1).trans rfl⟩ (fun hHeld => ?_)
            clear hK K
            refine norm_ (a' := ?_) ?_ ?_
            rotate_left
            ·show Act.put _ (some 54) _ = _
             simp only [Act.put, lA, lB, lC, aT, aU]
             rfl
            refine aX (i := 19) (N := some 55) (v := ?_) (a' := ?_) #[true, true, true, true, true, true, true, true, true, true, true, true, true, true, true, true, true, true, true, true, false, false, false, false, false, false, false] rfl rfl (aW HT_.out (by kernel_rfl)) (fun _ _ _ h => h) (Or.inl ⟨by rfl, ?_⟩) ?_ ?_
            rotate_left
            ·intro w'
             go_simp
             with_reducible rfl
            rotate_left
            ·simp only [Act.put, lA, lB, lC, aT, aU]
             rfl
            refine aX (i := 20) (N := some 56) (v := ?_) (a' := ?_) #[true, true, true, true, true, true, true, true, true, true, true, true, true, true, true, true, true, true, true, true, true, false, false, false, false, false, false] rfl rfl (aW HT_.out (by kernel_rfl)) (fun _ _ _ h => h) (Or.inl ⟨by rfl, ?_⟩) ?_ ?_
            rotate_left
            ·intro w'
             go_simp
             with_reducible rfl
            rotate_left
            ·simp only [Act.put, lA, lB, lC, aT, aU]
             rfl
            refine aX (i := 21) (N := some 57) (v := ?_) (a' := ?_) #[true, true, true, true, true, true, true, true, true, true, true, true, true, true, true, true, true, true, true, true, true, true, false, false, false, false, false] rfl rfl (aW HT_.out (by kernel_rfl)) (fun _ _ _ h => h) (Or.inl ⟨by rfl, ?_⟩) ?_ ?_
            rotate_left
            ·intro w'
             go_simp
             with_reducible rfl
            rotate_left
            ·simp only [Act.put, lA, lB, lC, aT, aU]
             rfl
            refine aX (i := 23) (N := some 59) (v := ?_) (a' := ?_) #[true, true, true, true, true, true, true, true, true, true, true, true, true, true, true, true, true, true, true, true, true, true, false, true, false, false, false] rfl rfl (aW HT_.out (by kernel_rfl)) (fun _ _ _ h => h) (Or.inl ⟨by rfl, ?_⟩) ?_ ?_
            rotate_left
            ·intro w'
             go_simp
             with_reducible rfl
            rotate_left
            ·simp only [Act.put, lA, lB, lC, aT, aU]
             rfl
            refine take_ (i := 22) (N := some 58) (v := ?_) (a' := ?_) #[true, true, true, true, true, true, true, true, true, true, true, true, true, true, true, true, true, true, true, true, true, true, true, true, false, false, false] rfl rfl (bP HT_.out HW_.out (by kernel_rfl)) (fun _ _ _ h => h) (Or.inl ⟨by rfl, ?_⟩) hHeld ?_ ?_
            rotate_left
            ·rintro w' ⟨s0, s1, s2⟩
             go_simp
             with_reducible rfl
            rotate_left
            ·simp only [Act.put, lA, lB, lC, aT, aU]
             rfl
            refine one_ (i := 24) (N := some 60) #[true, true, true, true, true, true, true, true, true, true, true, true, true, true, true, true, true, true, true, true, true, true, true, true, true, false, false] rfl rfl (one_of HT_.out (by kernel_rfl)) (by decide) (fun K hK => ?_)
            refine goes_ Try.func88 (by kernel_rfl) rfl #[.agg #[.slice A0_0 l0_0.length c0_0, .slice (some ad374) l0_1.length c0_1], .int .i64 x31_2] (by rfl) rfl rfl (by (try simp only [List.map_toArray, List.map_cons, List.map_nil]); first | done | rfl | (simp only [List.length_drop, List.length_take]; rfl)) ?_
            with_reducible refine (impl_inBounds.calls k2 _ _ l0_0 _ _ l0_1 x31_2 t381 _ ?side1 ?side2 ?side3 ?side4 A40.out).mono ?_
            (case side1 => repeat (first | exact (Kd.bJ HR0_0.out HB.out) | (with_reducible refine Kd.bD ?_ _) | (with_reducible refine Kd.bE ?_ _) | (with_reducible refine Kd.bK ?_)))
            (case side2 => exact HC0_0.out)
            (case side3 => repeat (first | exact (Kd.bJ HR0_1.out HB.out) | (with_reducible refine Kd.bD ?_ _) | (with_reducible refine Kd.bE ?_ _) | (with_reducible refine Kd.bK ?_)))
            (case side4 => exact HC0_1.out)
            rintro e w44 ⟨rfl, hb⟩
            refine ⟨_, rfl, ?_⟩
            have n0_ := aA.mk (aY (g := gb371) (o := .cells #[.slice A0_0 l0_0.length c0_0, .slice (some ad374) l0_1.length c0_1] 58 (0, 0)) (by (with_reducible repeat (first | refine aK ?_ _ | refine aN ?_ | refine aM ?_ _)); exact BK371.out) hb)
            have n1_ := aA.mk (aY (g := gb375) (o := .cells #[.slice A374_0 ((rd_T32 l0_1 x31_2).f0).length c374_0] 32 (0, 0)) (by (with_reducible repeat (first | refine aK ?_ _ | refine aN ?_ | refine aM ?_ _)); exact BK375.out) hb)
            have n2_ := aA.mk (aV (by repeat (first | (with_reducible first | exact HB.out | apply aE | apply aC | apply aD | refine aJ ?_ GE371.out | refine aJ ?_ GE375.out) | exact HB.out)) hb)
            clear BK371
            clear BK375
            clear HB
            have BK371 := n0_
            have BK375 := n1_
            have HB := n2_
            clear n0_ n1_ n2_
            (try clear hb)
            (try clear hb2)
            (try clear hk)
            (try clear hi)
            refine hK.out _ _ ⟨(aG BK375.out 0).trans rfl, (aG BK371.out 0).trans rfl, (aG BK371.out 1).trans rfl⟩ (fun hHeld => ?_)
            clear hK K
            refine norm_ (a' := ?_) ?_ ?_
            rotate_left
            ·show Act.put _ (some 60) _ = _
             simp only [Act.put, lA, lB, lC, aT, aU]
             rfl
            refine aX (i := 25) (N := some 61) (v := ?_) (a' := ?_) #[true, true, true, true, true, true, true, true, true, true, true, true, true, true, true, true, true, true, true, true, true, true, true, true, true, true, false] rfl rfl (aW HT_.out (by kernel_rfl)) (fun _ _ _ h => h) (Or.inl ⟨by rfl, ?_⟩) ?_ ?_
            rotate_left
            ·intro w'
             go_simp
             with_reducible rfl
            rotate_left
            ·simp only [Act.put, lA, lB, lC, aT, aU]
             rfl
            refine aX (i := 26) (N := some 62) (v := ?_) (a' := ?_) #[true, true, true, true, true, true, true, true, true, true, true, true, true, true, true, true, true, true, true, true, true, true, true, true, true, true, true] rfl rfl (aW HT_.out (by kernel_rfl)) (fun _ _ _ h => h) (Or.inl ⟨by rfl, ?_⟩) ?_ ?_
            rotate_left
            ·intro w'
             go_simp
             with_reducible rfl
            rotate_left
            ·simp only [Act.put, lA, lB, lC, aT, aU]
             rfl
            refine done_ (done_of HT_.out (by kernel_rfl)) ?_
            try go_wp2
            go_meet
            case rel => exact ⟨_, (!t381), (by first | rfl | (simp; done) | (simp [*]; done)), H', ⟨by have := HJ1.out; have := HK2.out; first | omega | exact Nat.le_refl _⟩, ⟨by (with_reducible repeat (first | refine aK ?_ _ | refine aN ?_ | refine aM ?_ _)); exact BK371.out⟩, ⟨by (with_reducible repeat (first | refine aK ?_ _ | refine aN ?_ | refine aM ?_ _)); exact BK375.out⟩, ⟨by repeat (first | (with_reducible first | exact HB.out | apply aE | apply aC | apply aD | refine aJ ?_ GE371.out | refine aJ ?_ GE375.out) | exact HB.out)⟩⟩
           ·replace c39 := Bool.eq_false_iff.mpr c39
            subst c39
            have H1 : (impl_TreeOk.j2 k2 x3_2 x31_2 l0_1 (l0_1.length : Int) x31_2 true l0_0 l0_1 ((rd_T32 l0_1 x31_2).f0)) = some r := by rw [if_neg (show ¬ (false = true) by decide)] at H; exact H
            clear H
            have H := H1
            clear H1
            have H' := aA.mk H
            clear H
            try go_wp2
            have n0_ : aA ((w17.setCell ⟨gb375, 0, none⟩ (.slice A374_0 ((rd_T32 l0_1 x31_2).f0).length c374_0)).heap[gb371]? = some (.cells #[.slice A0_0 l0_0.length c0_0, .slice (some ad374) l0_1.length c0_1] 58 (0, 0))) := ⟨by (with_reducible repeat (first | refine aK ?_ _ | refine aN ?_ | refine aM ?_ _)); refine blk_far ?_ NB371_375.out _; (with_reducible repeat (first | refine aK ?_ _ | refine aN ?_ | refine aM ?_ _)); exact BK371.out⟩
            have n1_ : aA ((w17.setCell ⟨gb375, 0, none⟩ (.slice A374_0 ((rd_T32 l0_1 x31_2).f0).length c374_0)).heap[gb375]? = some (.cells #[.slice A374_0 ((rd_T32 l0_1 x31_2).f0).length c374_0] 32 (0, 0))) := ⟨by (with_reducible repeat (first | refine aK ?_ _ | refine aN ?_ | refine aM ?_ _)); refine bM (cs := #[.slice none 0 0]) ?_ 0 _ rfl; (with_reducible repeat (first | refine aK ?_ _ | refine aN ?_ | refine aM ?_ _)); exact BK375.out⟩
            have n2_ : aA (Below w.heap.size w (w17.setCell ⟨gb375, 0, none⟩ (.slice A374_0 ((rd_T32 l0_1 x31_2).f0).length c374_0))) := ⟨by repeat (first | (with_reducible first | exact HB.out | apply aE | apply aC | apply aD | refine aJ ?_ GE371.out | refine aJ ?_ GE375.out) | exact HB.out)⟩
            (try clear BK371)
            (try clear BK375)
            (try clear HB)
            generalize (w17.setCell ⟨gb375, 0, none⟩ (.slice A374_0 ((rd_T32 l0_1 x31_2).f0).length c374_0)) = w45 at n0_ n1_ n2_ ⊢
            have BK371 := n0_
            have BK375 := n1_
            have HB := n2_
            clear n0_ n1_ n2_
            have n0_ := aA.mk (aN BK371.out)
            have n1_ := aA.mk (aN BK375.out)
            have n2_ := aA.mk (aD HB.out)
            clear BK371
            clear BK375
            clear HB
            have BK371 := n0_
            have BK375 := n1_
            have HB := n2_
            clear n0_ n1_ n2_
            refine start_ (n := 27) (S := fun w' => w'.cell? ⟨gb375, 0, none⟩ = some (.slice A374_0 ((rd_T32 l0_1 x31_2).f0).length c374_0)) (ds := []) #[false, false, false, false, false, false, false, false, false, false, false, false, false, false, false, false, false, false, false, false, false, false, false, false, false, false, false] (by kernel_rfl) rfl rfl ((aG BK375.out 0).trans rfl) (fun hHeld => ?_); refine with_tabW impl_TreeOk.tab7 impl_TreeOk.bits7 (fun HT_ HW_ => ?_)
            generalize w45.drew = w46 at BK371 BK375 HB hHeld ⊢
            refine aX (i := 0) (N := some 36) (v := ?_) (a' := ?_) #[true, false, false, false, false, false, false, false, false, false, false, false, false, false, false, false, false, false, false, false, false, false, false, false, false, false, false] rfl rfl (aW HT_.out (by kernel_rfl)) (fun _ _ _ h => h) (Or.inl ⟨by rfl, ?_⟩) ?_ ?_
            rotate_left
            ·intro w'
             go_simp
             with_reducible rfl
            rotate_left
            ·simp only [Act.put, lA, lB, lC, aT, aU]
             rfl
            refine aX (i := 1) (N := some 37) (v := ?_) (a' := ?_) #[true, true, false, false, false, false, false, false, false, false, false, false, false, false, false, false, false, false, false, false, false, false, false, false, false, false, false] rfl rfl (aW HT_.out (by kernel_rfl)) (fun _ _ _ h => h) (Or.inl ⟨by rfl, ?_⟩) ?_ ?_
            rotate_left
            ·intro w'
             go_simp
             with_reducible rfl
            rotate_left
            ·simp only [Act.put, lA, lB, lC, aT, aU]
             rfl
            refine aX (i := 2) (N := some 38) (v := ?_) (a' := ?_) #[true, true, true, false, false, false, false, false, false, false, false, false, false, false, false, false, false, false, false, false, false, false, false, false, false, false, false] rfl rfl (aW HT_.out (by kernel_rfl)) (fun _ _ _ h => h) (Or.inl ⟨by rfl, ?_⟩) ?_ ?_
            rotate_left
            ·intro w'
             go_simp
             with_reducible rfl
            rotate_left
            ·simp only [Act.put, lA, lB, lC, aT, aU]
             rfl
            refine aX (i := 3) (N := some 39) (v := undef) (a' := ?_) #[true, true, true, true, false, false, false, false, false, false, false, false, false, false, false, false, false, false, false, false, false, false, false, false, false, false, false] rfl rfl (aW HT_.out (by kernel_rfl)) (fun _ _ _ h => h) (Or.inr ⟨by rfl, rfl⟩) ?_ ?_
            rotate_left
            ·simp only [Act.put, lA, lB, lC, aT, aU]
             rfl
            refine aX (i := 4) (N := some 40) (v := undef) (a' := ?_) #[true, true, true, true, true, false, false, false, false, false, false, false, false, false, false, false, false, false, false, false, false, false, false, false, false, false, false] rfl rfl (aW HT_.out (by kernel_rfl)) (fun _ _ _ h => h) (Or.inr ⟨by rfl, rfl⟩) ?_ ?_
            rotate_left
            ·simp only [Act.put, lA, lB, lC, aT, aU]
             rfl
            refine aX (i := 5) (N := some 41) (v := undef) (a' := ?_) #[true, true, true, true, true, true, false, false, false, false, false, false, false, false, false, false, false, false, false, false, false, false, false, false, false, false, false] rfl rfl (aW HT_.out (by kernel_rfl)) (fun _ _ _ h => h) (Or.inr ⟨by rfl, rfl⟩) ?_ ?_
            rotate_left
            ·simp only [Act.put, lA, lB, lC, aT, aU]
             rfl
            refine aX (i := 6) (N := some 42) (v := undef) (a' := ?_) #[true, true, true, true, true, true, true, false, false, false, false, false, false, false, false, false, false, false, false, false, false, false, false, false, false, false, false] rfl rfl (aW HT_.out (by kernel_rfl)) (fun _ _ _ h => h) (Or.inr ⟨by rfl, rfl⟩) ?_ ?_
            rotate_left
            ·simp only [Act.put, lA, lB, lC, aT, aU]
             rfl
            refine aX (i := 7) (N := some 43) (v := undef) (a' := ?_) #[true, true, true, true, true, true, true, true, false, false, false, false, false, false, false, false, false, false, false, false, false, false, false, false, false, false, false] rfl rfl (aW HT_.out (by kernel_rfl)) (fun _ _ _ h => h) (Or.inr ⟨by rfl, rfl⟩) ?_ ?_
            rotate_left
            ·simp only [Act.put, lA, lB, lC, aT, aU]
             rfl
            refine aX (i := 8) (N := some 44) (v := undef) (a' := ?_) #[true, true, true, true, true, true, true, true, true, false, false, false, false, false, false, false, false, false, false, false, false, false, false, false, false, false, false] rfl rfl (aW HT_.out (by kernel_rfl)) (fun _ _ _ h => h) (Or.inr ⟨by rfl, rfl⟩) ?_ ?_
            rotate_left
            ·simp only [Act.put, lA, lB, lC, aT, aU]
             rfl
            refine aX (i := 9) (N := some 45) (v := undef) (a' := ?_) #[true, true, true, true, true, true, true, true, true, true, false, false, false, false, false, false, false, false, false, false, false, false, false, false, false, false, false] rfl rfl (aW HT_.out (by kernel_rfl)) (fun _ _ _ h => h) (Or.inr ⟨by rfl, rfl⟩) ?_ ?_
            rotate_left
            ·simp only [Act.put, lA, lB, lC, aT, aU]
             rfl
            refine aX (i := 10) (N := some 46) (v := undef) (a' := ?_) #[true, true, true, true, true, true, true, true, true, true, true, false, false, false, false, false, false, false, false, false, false, false, false, false, false, false, false] rfl rfl (aW HT_.out (by kernel_rfl)) (fun _ _ _ h => h) (Or.inr ⟨by rfl, rfl⟩) ?_ ?_
            rotate_left
            ·simp only [Act.put, lA, lB, lC, aT, aU]
             rfl
            refine aX (i := 11) (N := some 47) (v := undef) (a' := ?_) #[true, true, true, true, true, true, true, true, true, true, true, true, false, false, false, false, false, false, false, false, false, false, false, false, false, false, false] rfl rfl (aW HT_.out (by kernel_rfl)) (fun _ _ _ h => h) (Or.inr ⟨by rfl, rfl⟩) ?_ ?_
            rotate_left
            ·simp only [Act.put, lA, lB, lC, aT, aU]
             rfl
            refine aX (i := 12) (N := some 48) (v := undef) (a' := ?_) #[true, true, true, true, true, true, true, true, true, true, true, true, true, false, false, false, false, false, false, false, false, false, false, false, false, false, false] rfl rfl (aW HT_.out (by kernel_rfl)) (fun _ _ _ h => h) (Or.inr ⟨by rfl, rfl⟩) ?_ ?_
            rotate_left
            ·simp only [Act.put, lA, lB, lC, aT, aU]
             rfl
            refine aX (i := 13) (N := some 49) (v := undef) (a' := ?_) #[true, true, true, true, true, true, true, true, true, true, true, true, true, true, false, false, false, false, false, false, false, false, false, false, false, false, false] rfl rfl (aW HT_.out (by kernel_rfl)) (fun _ _ _ h => h) (Or.inr ⟨by rfl, rfl⟩) ?_ ?_
            rotate_left
            ·simp only [Act.put, lA, lB, lC, aT, aU]
             rfl
            refine aX (i := 14) (N := some 50) (v := undef) (a' := ?_) #[true, true, true, true, true, true, true, true, true, true, true, true, true, true, true, false, false, false, false, false, false, false, false, false, false, false, false] rfl rfl (aW HT_.out (by kernel_rfl)) (fun _ _ _ h => h) (Or.inr ⟨by rfl, rfl⟩) ?_ ?_
            rotate_left
            ·simp only [Act.put, lA, lB, lC, aT, aU]
             rfl
            refine aX (i := 15) (N := some 51) (v := ?_) (a' := ?_) #[true, true, true, true, true, true, true, true, true, true, true, true, true, true, true, true, false, false, false, false, false, false, false, false, false, false, false] rfl rfl (aW HT_.out (by kernel_rfl)) (fun _ _ _ h => h) (Or.inl ⟨by rfl, ?_⟩) ?_ ?_
            rotate_left
            ·intro w'
             go_simp
             with_reducible rfl
            rotate_left
            ·simp only [Act.put, lA, lB, lC, aT, aU]
             rfl
            refine aX (i := 16) (N := some 52) (v := ?_) (a' := ?_) #[true, true, true, true, true, true, true, true, true, true, true, true, true, true, true, true, true, false, false, false, false, false, false, false, false, false, false] rfl rfl (aW HT_.out (by kernel_rfl)) (fun _ _ _ h => h) (Or.inl ⟨by rfl, ?_⟩) ?_ ?_
            rotate_left
            ·intro w'
             go_simp
             with_reducible rfl
            rotate_left
            ·simp only [Act.put, lA, lB, lC, aT, aU]
             rfl
            refine take_ (i := 17) (N := some 53) (v := ?_) (a' := ?_) #[true, true, true, true, true, true, true, true, true, true, true, true, true, true, true, true, true, true, false, false, false, false, false, false, false, false, false] rfl rfl (bP HT_.out HW_.out (by kernel_rfl)) (fun _ _ _ h => h) (Or.inl ⟨by rfl, ?_⟩) hHeld ?_ ?_
            rotate_left
            ·intro w' s0
             go_simp
             with_reducible rfl
            rotate_left
            ·simp only [Act.put, lA, lB, lC, aT, aU]
             rfl
            refine one_ (i := 18) (N := some 54) #[true, true, true, true, true, true, true, true, true, true, true, true, true, true, true, true, true, true, true, false, false, false, false, false, false, false, false] rfl rfl (one_of HT_.out (by kernel_rfl)) (by decide) (fun K hK => ?_)
            refine goes_ Try.func29 (by kernel_rfl) rfl #[.agg #[.slice A374_0 ((rd_T32 l0_1 x31_2).f0).length c374_0]] (by rfl) rfl rfl (by (try simp only [List.map_toArray, List.map_cons, List.map_nil]); first | done | rfl | (simp only [List.length_drop, List.length_take]; rfl)) ?_
            with_reducible refine (impl_NodeOk.calls k2 _ _ ((rd_T32 l0_1 x31_2).f0) false _ ?side1 ?side2 A38.out).mono ?_
            (case side1 => repeat (first | exact (Kd.bJ HR374_0.out HB.out) | (with_reducible refine Kd.bD ?_ _) | (with_reducible refine Kd.bE ?_ _) | (with_reducible refine Kd.bK ?_)))
            (case side2 => exact HC374_0.out)
            rintro e w47 ⟨rfl, hb⟩
            refine ⟨_, rfl, ?_⟩
            have n0_ := aA.mk (aY (g := gb371) (o := .cells #[.slice A0_0 l0_0.length c0_0, .slice (some ad374) l0_1.length c0_1] 58 (0, 0)) (by (with_reducible repeat (first | refine aK ?_ _ | refine aN ?_ | refine aM ?_ _)); exact BK371.out) hb)
            have n1_ := aA.mk (aY (g := gb375) (o := .cells #[.slice A374_0 ((rd_T32 l0_1 x31_2).f0).length c374_0] 32 (0, 0)) (by (with_reducible repeat (first | refine aK ?_ _ | refine aN ?_ | refine aM ?_ _)); exact BK375.out) hb)
            have n2_ := aA.mk (aV (by repeat (first | (with_reducible first | exact HB.out | apply aE | apply aC | apply aD | refine aJ ?_ GE371.out | refine aJ ?_ GE375.out) | exact HB.out)) hb)
            clear BK371
            clear BK375
            clear HB
            have BK371 := n0_
            have BK375 := n1_
            have HB := n2_
            clear n0_ n1_ n2_
            (try clear hb)
            (try clear hb2)
            (try clear hk)
            (try clear hi)
            refine hK.out _ _ ((aG BK375.out 0).trans rfl) (fun hHeld => ?_)
            clear hK K
            refine norm_ (a' := ?_) ?_ ?_
            rotate_left
            ·show Act.put _ (some 54) _ = _
             simp only [Act.put, lA, lB, lC, aT, aU]
             rfl
            refine aX (i := 19) (N := some 55) (v := ?_) (a' := ?_) #[true, true, true, true, true, true, true, true, true, true, true, true, true, true, true, true, true, true, true, true, false, false, false, false, false, false, false] rfl rfl (aW HT_.out (by kernel_rfl)) (fun _ _ _ h => h) (Or.inl ⟨by rfl, ?_⟩) ?_ ?_
            rotate_left
            ·intro w'
             go_simp
             with_reducible rfl
            rotate_left
            ·simp only [Act.put, lA, lB, lC, aT, aU]
             rfl
            refine aX (i := 20) (N := some 56) (v := ?_) (a' := ?_) #[true, true, true, true, true, true, true, true, true, true, true, true, true, true, true, true, true, true, true, true, true, false, false, false, false, false, false] rfl rfl (aW HT_.out (by kernel_rfl)) (fun _ _ _ h => h) (Or.inl ⟨by rfl, ?_⟩) ?_ ?_
            rotate_left
            ·intro w'
             go_simp
             with_reducible rfl
            rotate_left
            ·simp only [Act.put, lA, lB, lC, aT, aU]
             rfl
            refine aX (i := 21) (N := some 57) (v := ?_) (a' := ?_) #[true, true, true, true, true, true, true, true, true, true, true, true, true, true, true, true, true, true, true, true, true, true, false, false, false, false, false] rfl rfl (aW HT_.out (by kernel_rfl)) (fun _ _ _ h => h) (Or.inl ⟨by rfl, ?_⟩) ?_ ?_
            rotate_left
            ·intro w'
             go_simp
             with_reducible rfl
            rotate_left
            ·simp only [Act.put, lA, lB, lC, aT, aU]
             rfl
            refine aX (i := 22) (N := some 58) (v := undef) (a' := ?_) #[true, true, true, true, true, true, true, true, true, true, true, true, true, true, true, true, true, true, true, true, true, true, true, false, false, false, false] rfl rfl (aW HT_.out (by kernel_rfl)) (fun _ _ _ h => h) (Or.inr ⟨by rfl, rfl⟩) ?_ ?_
            rotate_left
            ·simp only [Act.put, lA, lB, lC, aT, aU]
             rfl
            refine aX (i := 23) (N := some 59) (v := undef) (a' := ?_) #[true, true, true, true, true, true, true, true, true, true, true, true, true, true, true, true, true, true, true, true, true, true, true, true, false, false, false] rfl rfl (aW HT_.out (by kernel_rfl)) (fun _ _ _ h => h) (Or.inr ⟨by rfl, rfl⟩) ?_ ?_
            rotate_left
            ·simp only [Act.put, lA, lB, lC, aT, aU]
             rfl
            refine aX (i := 24) (N := some 60) (v := undef) (a' := ?_) #[true, true, true, true, true, true, true, true, true, true, true, true, true, true, true, true, true, true, true, true, true, true, true, true, true, false, false] rfl rfl (aW HT_.out (by kernel_rfl)) (fun _ _ _ h => h) (Or.inr ⟨by rfl, rfl⟩) ?_ ?_
            rotate_left
            ·simp only [Act.put, lA, lB, lC, aT, aU]
             rfl
            refine aX (i := 25) (N := some 61) (v := undef) (a' := ?_) #[true, true, true, true, true, true, true, true, true, true, true, true, true, true, true, true, true, true, true, true, true, true, true, true, true, true, false] rfl rfl (aW HT_.out (by kernel_rfl)) (fun _ _ _ h => h) (Or.inr ⟨by rfl, rfl⟩) ?_ ?_
            rotate_left
            ·simp only [Act.put, lA, lB, lC, aT, aU]
             rfl
            refine aX (i := 26) (N := some 62) (v := ?_) (a' := ?_) #[true, true, true, true, true, true, true, true, true, true, true, true, true, true, true, true, true, true, true, true, true, true, true, true, true, true, true] rfl rfl (aW HT_.out (by kernel_rfl)) (fun _ _ _ h => h) (Or.inl ⟨by rfl, ?_⟩) ?_ ?_
            rotate_left
            ·intro w'
             go_simp
             with_reducible rfl
            rotate_left
            ·simp only [Act.put, lA, lB, lC, aT, aU]
             rfl
            refine done_ (done_of HT_.out (by kernel_rfl)) ?_
            try go_wp2
            go_meet
            case rel => exact ⟨_, (true), (by first | rfl | (simp; done) | (simp [*]; done)), H', ⟨by have := HJ1.out; have := HK2.out; first | omega | exact Nat.le_refl _⟩, ⟨by (with_reducible repeat (first | refine aK ?_ _ | refine aN ?_ | refine aM ?_ _)); exact BK371.out⟩, ⟨by (with_reducible repeat (first | refine aK ?_ _ | refine aN ?_ | refine aM ?_ _)); exact BK375.out⟩, ⟨by repeat (first | (with_reducible first | exact HB.out | apply aE | apply aC | apply aD | refine aJ ?_ GE371.out | refine aJ ?_ GE375.out) | exact HB.out)⟩⟩
         case rest =>
          clear HC16
          try clear c2
          try clear p2
          try clear c3
          try clear c8
          try clear c20
          try clear c20b0
          try clear c22
          try clear c23
          try clear c24
          try clear c29
          try clear c37
          try clear c39
          obtain ⟨kq, x62_15, rfl, HA, HJ15, BK371, BK375, HB⟩ := hcut
          cases kq with
          | zero => exact absurd HA.out (by simp [impl_TreeOk.j2])
          | succ kj15 =>
           have H := HA.out
           clear HA
           simp only [impl_TreeOk.j2] at H
           by_cases c48 : x62_15 = true
           ·subst c48
            have H1 : (some false) = some r := by rw [if_pos rfl] at H; exact H
            clear H
            have H := H1
            clear H1
            obtain rfl := Option.some.inj H
            go_wp2
            go_ret
            exact ⟨by first | rfl | (simp [errW_none, errW_some] <;> rfl) | (simp [*, errW_none, errW_some] <;> rfl), by repeat (first | (with_reducible first | exact HB.out | apply aE | apply aC | apply aD | refine aJ ?_ GE371.out | refine aJ ?_ GE375.out) | exact HB.out)⟩
           ·replace c48 := Bool.eq_false_iff.mpr c48
            subst c48
            have H1 : ((impl_NodeKeys.f kj15 ((rd_T32 l0_1 x31_2).f0)).bind fun t382 => (if x31_2 > 0 then (if (t382.length : Int) = 0 then (some false) else (impl_TreeOk.l0 kj15 (wrap64 (x3_2 + (t382.length : Int))) l0_1 (l0_1.length : Int) (wrap64 (x31_2 + 1)) l0_0 l0_1)) else (impl_TreeOk.l0 kj15 (wrap64 (x3_2 + (t382.length : Int))) l0_1 (l0_1.length : Int) (wrap64 (x31_2 + 1)) l0_0 l0_1))) = some r := by rw [if_neg (show ¬ (false = true) by decide)] at H; exact H
            clear H
            have H := H1
            clear H1
            replace H := lF H
            obtain ⟨t382, A490, H⟩ := H
            replace H : (if x31_2 > 0 then (if (t382.length : Int) = 0 then (some false) else (impl_TreeOk.l0 kj15 (wrap64 (x3_2 + (t382.length : Int))) l0_1 (l0_1.length : Int) (wrap64 (x31_2 + 1)) l0_0 l0_1)) else (impl_TreeOk.l0 kj15 (wrap64 (x3_2 + (t382.length : Int))) l0_1 (l0_1.length : Int) (wrap64 (x31_2 + 1)) l0_0 l0_1)) = some r := H
            have A49 := aA.mk A490
            clear A490
            by_cases c50 : x31_2 > 0
            ·rw [if_pos c50] at H
             have c50b0 : decide (0 < x31_2) = true := decide_eq_true c50
             clear c50
             by_cases c51 : (t382.length : Int) = 0
             ·rw [if_pos c51] at H
              have c51b0 : ((t382.length : Int) == 0) = true := beq_iff_eq.mpr c51
              have c51b1 : ((t382.length : Int) != 0) = false := bne_eq_false_iff_eq.mpr c51
              clear c51
              obtain rfl := Option.some.inj H
              have hnb52 := NB375_371.out
              have hnc52 := NB371_375.out
              have hcz53_0 : wc.cell? ⟨gb375, 0, none⟩ = some (.slice A374_0 ((rd_T32 l0_1 x31_2).f0).length c374_0) := (aG BK375.out 0).trans rfl
              have hfz53_0 := aH BK375.out 0
              go_wp2_with (first | ((with_reducible refine bC (f := 31) rfl ?_); refine bL (some 64) rfl rfl Try.func31 (by kernel_rfl) rfl #[.agg #[.slice A374_0 ((rd_T32 l0_1 x31_2).f0).length c374_0]] rfl (by (try simp only [List.map_toArray, List.map_cons, List.map_nil]); first | done | rfl | (simp only [List.length_drop, List.length_take]; rfl)) ?_; (with_reducible refine (impl_NodeKeys.calls kj15 _ _ ((rd_T32 l0_1 x31_2).f0) t382 _ ?side1 ?side2 A49.out).mono ?_); (case side1 => repeat (first | exact (Kd.bJ HR374_0.out HB.out) | (with_reducible refine Kd.bD ?_ _) | (with_reducible refine Kd.bE ?_ _) | (with_reducible refine Kd.bK ?_))); (case side2 => exact HC374_0.out); rintro e w54 ⟨v383, rfl, ho0, hb⟩; refine ⟨_, rfl, ?_⟩; have n0_ := aA.mk (Kd.R_lower ho0 (aQ (by repeat (first | (with_reducible first | exact HB.out | apply aE | apply aC | apply aD | refine aJ ?_ GE371.out | refine aJ ?_ GE375.out) | exact HB.out)))); have n1_ := aA.mk (aY (g := gb371) (o := .cells #[.slice A0_0 l0_0.length c0_0, .slice (some ad374) l0_1.length c0_1] 58 (0, 0)) (by (with_reducible repeat (first | refine aK ?_ _ | refine aN ?_ | refine aM ?_ _)); exact BK371.out) hb); have n2_ := aA.mk (aY (g := gb375) (o := .cells #[.slice A374_0 ((rd_T32 l0_1 x31_2).f0).length c374_0] 32 (0, 0)) (by (with_reducible repeat (first | refine aK ?_ _ | refine aN ?_ | refine aM ?_ _)); exact BK375.out) hb); have n3_ := aA.mk (aV (by repeat (first | (with_reducible first | exact HB.out | apply aE | apply aC | apply aD | refine aJ ?_ GE371.out | refine aJ ?_ GE375.out) | exact HB.out)) hb); clear BK371; clear BK375; clear HB; have HO384 := n0_; have BK371 := n1_; have BK375 := n2_; have HB := n3_; clear n0_ n1_ n2_ n3_; (try clear hb); (try clear ho0); obtain ⟨Ao55, co55, eo55⟩ := Kd.R_slice HO384.out; subst eo55))
              go_ret
              exact ⟨by first | rfl | (simp [errW_none, errW_some] <;> rfl) | (simp [*, errW_none, errW_some] <;> rfl), by repeat (first | (with_reducible first | exact HB.out | apply aE | apply aC | apply aD | refine aJ ?_ GE371.out | refine aJ ?_ GE375.out) | exact HB.out)⟩
             ·rw [if_neg c51] at H
              have c51b0 : ((t382.length : Int) == 0) = false := beq_eq_false_iff_ne.mpr c51
              have c51b1 : ((t382.length : Int) != 0) = true := bne_iff_ne.mpr c51
              have c51b2 : ¬ (t382 = []) := fun h_ => c51 (by rw [h_]; rfl)
              have H' := aA.mk H
              clear H
              have hnb56 := NB375_371.out
              have hnc56 := NB371_375.out
              have hcz57_0 : wc.cell? ⟨gb375, 0, none⟩ = some (.slice A374_0 ((rd_T32 l0_1 x31_2).f0).length c374_0) := (aG BK375.out 0).trans rfl
              have hfz57_0 := aH BK375.out 0
              go_wp2_with (first | ((with_reducible refine bC (f := 31) rfl ?_); refine bL (some 64) rfl rfl Try.func31 (by kernel_rfl) rfl #[.agg #[.slice A374_0 ((rd_T32 l0_1 x31_2).f0).length c374_0]] rfl (by (try simp only [List.map_toArray, List.map_cons, List.map_nil]); first | done | rfl | (simp only [List.length_drop, List.length_take]; rfl)) ?_; (with_reducible refine (impl_NodeKeys.calls kj15 _ _ ((rd_T32 l0_1 x31_2).f0) t382 _ ?side1 ?side2 A49.out).mono ?_); (case side1 => repeat (first | exact (Kd.bJ HR374_0.out HB.out) | (with_reducible refine Kd.bD ?_ _) | (with_reducible refine Kd.bE ?_ _) | (with_reducible refine Kd.bK ?_))); (case side2 => exact HC374_0.out); rintro e w58 ⟨v383, rfl, ho0, hb⟩; refine ⟨_, rfl, ?_⟩; have n0_ := aA.mk (Kd.R_lower ho0 (aQ (by repeat (first | (with_reducible first | exact HB.out | apply aE | apply aC | apply aD | refine aJ ?_ GE371.out | refine aJ ?_ GE375.out) | exact HB.out)))); have n1_ := aA.mk (aY (g := gb371) (o := .cells #[.slice A0_0 l0_0.length c0_0, .slice (some ad374) l0_1.length c0_1] 58 (0, 0)) (by (with_reducible repeat (first | refine aK ?_ _ | refine aN ?_ | refine aM ?_ _)); exact BK371.out) hb); have n2_ := aA.mk (aY (g := gb375) (o := .cells #[.slice A374_0 ((rd_T32 l0_1 x31_2).f0).length c374_0] 32 (0, 0)) (by (with_reducible repeat (first | refine aK ?_ _ | refine aN ?_ | refine aM ?_ _)); exact BK375.out) hb); have n3_ := aA.mk (aV (by repeat (first | (with_reducible first | exact HB.out | apply aE | apply aC | apply aD | refine aJ ?_ GE371.out | refine aJ ?_ GE375.out) | exact HB.out)) hb); clear BK371; clear BK375; clear HB; have HO384 := n0_; have BK371 := n1_; have BK375 := n2_; have HB := n3_; clear n0_ n1_ n2_ n3_; (try clear hb); (try clear ho0); obtain ⟨Ao59, co59, eo59⟩ := Kd.R_slice HO384.out; subst eo59))
              go_roundg kj15
              case measure => have := HJ1.out; have := HK2.out; have := HJ15.out; omega
              case rel => exact ⟨(wrap64 (x3_2 + (t382.length : Int))), (wrap64 (x31_2 + 1)), (by first | rfl | (simp; done) | (simp [*]; done)), (by first | rfl | (simp; done) | (simp [*]; done)), H', ⟨by have := HJ1.out; have := HK2.out; have := HJ15.out; omega⟩, ⟨by (with_reducible repeat (first | refine aK ?_ _ | refine aN ?_ | refine aM ?_ _)); exact BK371.out⟩, ⟨by repeat (first | (with_reducible first | exact HB.out | apply aE | apply aC | apply aD | refine aJ ?_ GE371.out | refine aJ ?_ GE375.out) | exact HB.out)⟩⟩
            ·rw [if_neg c50] at H
             have c50b0 : decide (0 < x31_2) = false := decide_eq_false c50
             clear c50
             have H' := aA.mk H
             clear H
             have hnb60 := NB375_371.out
             have hnc60 := NB371_375.out
             have hcz61_0 : wc.cell? ⟨gb375, 0, none⟩ = some (.slice A374_0 ((rd_T32 l0_1 x31_2).f0).length c374_0) := (aG BK375.out 0).trans rfl
             have hfz61_0 := aH BK375.out 0
             go_wp2_with (first | ((with_reducible refine bC (f := 31) rfl ?_); refine bL (some 64) rfl rfl Try.func31 (by kernel_rfl) rfl #[.agg #[.slice A374_0 ((rd_T32 l0_1 x31_2).f0).length c374_0]] rfl (by (try simp only [List.map_toArray, List.map_cons, List.map_nil]); first | done | rfl | (simp only [List.length_drop, List.length_take]; rfl)) ?_; (with_reducible refine (impl_NodeKeys.calls kj15 _ _ ((rd_T32 l0_1 x31_2).f0) t382 _ ?side1 ?side2 A49.out).mono ?_); (case side1 => repeat (first | exact (Kd.bJ HR374_0.out HB.out) | (with_reducible refine Kd.bD ?_ _) | (with_reducible refine Kd.bE ?_ _) | (with_reducible refine Kd.bK ?_))); (case side2 => exact HC374_0.out); rintro e w62 ⟨v383, rfl, ho0, hb⟩; refine ⟨_, rfl, ?_⟩; have n0_ := aA.mk (Kd.R_lower ho0 (aQ (by repeat (first | (with_reducible first | exact HB.out | apply aE | apply aC | apply aD | refine aJ ?_ GE371.out | refine aJ ?_ GE375.out) | exact HB.out)))); have n1_ := aA.mk (aY (g := gb371) (o := .cells #[.slice A0_0 l0_0.length c0_0, .slice (some ad374) l0_1.length c0_1] 58 (0, 0)) (by (with_reducible repeat (first | refine aK ?_ _ | refine aN ?_ | refine aM ?_ _)); exact BK371.out) hb); have n2_ := aA.mk (aY (g := gb375) (o := .cells #[.slice A374_0 ((rd_T32 l0_1 x31_2).f0).length c374_0] 32 (0, 0)) (by (with_reducible repeat (first | refine aK ?_ _ | refine aN ?_ | refine aM ?_ _)); exact BK375.out) hb); have n3_ := aA.mk (aV (by repeat (first | (with_reducible first | exact HB.out | apply aE | apply aC | apply aD | refine aJ ?_ GE371.out | refine aJ ?_ GE375.out) | exact HB.out)) hb); clear BK371; clear BK375; clear HB; have HO384 := n0_; have BK371 := n1_; have BK375 := n2_; have HB := n3_; clear n0_ n1_ n2_ n3_; (try clear hb); (try clear ho0); obtain ⟨Ao63, co63, eo63⟩ := Kd.R_slice HO384.out; subst eo63))
             go_roundg kj15
             case measure => have := HJ1.out; have := HK2.out; have := HJ15.out; omega
             case rel => exact ⟨(wrap64 (x3_2 + (t382.length : Int))), (wrap64 (x31_2 + 1)), (by first | rfl | (simp; done) | (simp [*]; done)), (by first | rfl | (simp; done) | (simp [*]; done)), H', ⟨by have := HJ1.out; have := HK2.out; have := HJ15.out; omega⟩, ⟨by (with_reducible repeat (first | refine aK ?_ _ | refine aN ?_ | refine aM ?_ _)); exact BK371.out⟩, ⟨by repeat (first | (with_reducible first | exact HB.out | apply aE | apply aC | apply aD | refine aJ ?_ GE371.out | refine aJ ?_ GE375.out) | exact HB.out)⟩⟩
        ·rw [if_neg c15] at H
         exact absurd H (by simp)
       ·rw [if_neg c14] at H
        exact absurd H (by simp)
      ·rw [if_neg c13] at H
       have c13b0 : decide (x31_2 < (l0_1.length : Int)) = false := decide_eq_false c13
       clear c13
       obtain rfl := Option.some.inj H
       go_wp2
       go_ret
       exact ⟨by first | rfl | (simp [errW_none, errW_some] <;> rfl) | (simp [*, errW_none, errW_some] <;> rfl), by repeat (first | (with_reducible first | exact HB.out | apply aE | apply aC | apply aD | refine aJ ?_ GE371.out) | exact HB.out)⟩
end Go.Proofs.Ythpfihklkcnckaa.PFnExactTreeOk
