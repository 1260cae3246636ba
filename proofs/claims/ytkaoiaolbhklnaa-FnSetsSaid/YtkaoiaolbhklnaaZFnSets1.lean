/- The law: the functions that it reaches, each with the proof that the machine's call comes to its answer, what they answer, and the law's row; each theorem says its conditions itself. -/
import Derived.Test.YtkaoiaolbhklnaaZFnSets0
namespace Go.Proofs.Ytkaoiaolbhklnaa.PFnSets
open Go.RowKit Go.Proofs.YtkaoiaolbhklnaaW.PrintWords Go.Proofs.YtkaoiaolbhklnaaW.PrintLast Go.Proofs.YtkaoiaolbhklnaaW.PrintMore
attribute [local go_sem] max2_int min2_int max_two min_two max_three min_three max_four min_four   -- for this text's walks alone
set_option linter.unusedVariables false
set_option linter.unusedSimpArgs false
mutual
def spec_SetPut.l0 : Nat → List (S27) → List (S27) → Bool → Int → Int → Int → Int → Int → Int → Option ((List (S27)))
 | 0, _, _, _, _, _, _, _, _, _ => none
 | k + 1, x0, x5, x6, x7, x133000, x133001, x133002, x133003, x133004 => if x7 < (x0.length : Int) then (if x6 = true then (spec_SetPut.j1 k x0 x5 x6 x7 false x133000 x133001 x133002 x133003 x133004) else (if 0 ≤ x7 then ((spec_LessKey.f ((rd_T27 x0 x7).f0) ((rd_T27 x0 x7).f1) ((rd_T27 x0 x7).f2) ((rd_T27 x0 x7).f3) ((rd_T27 x0 x7).f4) x133000 x133001 x133002 x133003 x133004).bind fun t140 => (spec_SetPut.j1 k x0 x5 x6 x7 (!t140) x133000 x133001 x133002 x133003 x133004)) else (none))) else (if x6 = true then (some x5) else (if x5.length < 3518437208883 then (some (x5 ++ [(⟨x133000, x133001, x133002, x133003, x133004⟩ : S27)])) else (none)))
def spec_SetPut.j1 : Nat → List (S27) → List (S27) → Bool → Int → Bool → Int → Int → Int → Int → Int → Option ((List (S27)))
 | 0, _, _, _, _, _, _, _, _, _, _ => none
 | k + 1, x0, x5, x6, x7, x25, x133000, x133001, x133002, x133003, x133004 => if x25 = true then (if x5.length < 3518437208883 then ((some (x5 ++ [(⟨x133000, x133001, x133002, x133003, x133004⟩ : S27)] : List (S27))).bind fun y141 => (if 0 ≤ x7 then (if x7 < (x0.length : Int) then ((spec_SameSpot.f ((rd_T27 x0 x7).f0) ((rd_T27 x0 x7).f1) ((rd_T27 x0 x7).f2) ((rd_T27 x0 x7).f3) ((rd_T27 x0 x7).f4) x133000 x133001 x133002 x133003 x133004).bind fun t145 => (if t145 = true then (spec_SetPut.l0 k x0 y141 true (wrap64 (x7 + 1)) x133000 x133001 x133002 x133003 x133004) else (if y141.length < 3518437208883 then (spec_SetPut.l0 k x0 (y141 ++ [(⟨(rd_T27 x0 x7).f0, (rd_T27 x0 x7).f1, (rd_T27 x0 x7).f2, (rd_T27 x0 x7).f3, (rd_T27 x0 x7).f4⟩ : S27)]) true (wrap64 (x7 + 1)) x133000 x133001 x133002 x133003 x133004) else (none)))) else (none)) else (none))) else (none)) else (if 0 ≤ x7 then (if x7 < (x0.length : Int) then ((spec_SameSpot.f ((rd_T27 x0 x7).f0) ((rd_T27 x0 x7).f1) ((rd_T27 x0 x7).f2) ((rd_T27 x0 x7).f3) ((rd_T27 x0 x7).f4) x133000 x133001 x133002 x133003 x133004).bind fun t151 => (if t151 = true then (spec_SetPut.l0 k x0 x5 x6 (wrap64 (x7 + 1)) x133000 x133001 x133002 x133003 x133004) else (if x5.length < 3518437208883 then (spec_SetPut.l0 k x0 (x5 ++ [(⟨(rd_T27 x0 x7).f0, (rd_T27 x0 x7).f1, (rd_T27 x0 x7).f2, (rd_T27 x0 x7).f3, (rd_T27 x0 x7).f4⟩ : S27)]) x6 (wrap64 (x7 + 1)) x133000 x133001 x133002 x133003 x133004) else (none)))) else (none)) else (none))
end
def spec_SetPut.f (k : Nat) (l0 : List (S27)) (a1_0 : Int) (a1_1 : Int) (a1_2 : Int) (a1_3 : Int) (a1_4 : Int) : Option ((List (S27))) := spec_SetPut.l0 k l0 (([] : List (S27))) false 0 a1_0 a1_1 a1_2 a1_3 a1_4
def spec_SetPut.T6 : Bool × List (List Nat × List Nat) := (true, [([], []), ([0], [0]), ([1], [1]), ([2], [2]), ([2], [2]), ([3, 4, 2], [2, 3, 4]), ([5, 2], [2, 5]), ([2], [2]), ([6, 7, 2, 2], [2, 6, 7]), ([8, 2], [2, 8]), ([2, 9], [2, 9])])
def spec_SetPut.B6 : List Nat := [0, 1, 3, 7, 7, 31, 63, 7, 255, 511, 1023]
theorem spec_SetPut.tab6 : rtab .any (opsOf Try.f52 6) = spec_SetPut.T6 := by kernel_rfl
theorem spec_SetPut.bits6 : waitsOk spec_SetPut.T6.2 spec_SetPut.B6 = true := by kernel_rfl
set_option maxHeartbeats 8000000 in
set_option maxRecDepth 100000 in
theorem spec_SetPut.calls (k : Nat) (A0 : Option Addr) (c0 : Nat) (l0 : List (S27)) (a1_0 : Int) (a1_1 : Int) (a1_2 : Int) (a1_3 : Int) (a1_4 : Int) (r : List (S27)) (w : World) (hr0 : Kd.C k27 w A0 l0.length l0) (hc0 : l0.length ≤ c0) (h : spec_SetPut.f k l0 a1_0 a1_1 a1_2 a1_3 a1_4 = some r) :
  Calls Try.prog 52 #[.slice A0 l0.length c0, .agg #[.int .i64 a1_0, .int .i64 a1_1, .int .i64 a1_2, .int .i64 a1_3, .int .i64 a1_4]] w fun e w' => ∃ v0_ : Value, e = .returned (v0_) ∧ Kd.R k27 27 w' w.heap.size (fun _ => True) v0_ r ∧ Below w.heap.size w w' := by
 have hu27 := Try.underlying27
 have HR0 := aA.mk hr0
 have HC0 := aA.mk hc0
 clear hr0 hc0
 have HB := aA.mk (Below.refl w.heap.size w)
 have H : (spec_SetPut.l0 k l0 (([] : List (S27))) false 0 a1_0 a1_1 a1_2 a1_3 a1_4) = some r := h
 clear h
 obtain ⟨y133, hy133⟩ : ∃ y_ : List (S27), y_ = (([] : List (S27))) := ⟨_, rfl⟩
 replace H : (spec_SetPut.l0 k l0 y133 false 0 a1_0 a1_1 a1_2 a1_3 a1_4) = some r := by first | (rw [hy133]; with_reducible exact H) | (have H2_ := (Option.bind_some _ _).symm.trans H; rw [hy133]; with_reducible exact H2_) | (have H2_ := (Option.bind_some _ _).symm.trans H; with_reducible exact H2_) | with_reducible exact H | (rw [hy133]; exact H) | exact H
 have Ny133 := aA.mk hy133
 clear hy133
 have H' := aA.mk H
 clear H
 go_enter Try.func52, Try.ntmps52
 go_wp2_with (first | ((with_reducible refine bL (N := 3) rfl ?_); refine bM ?hg (N := 3) ?hd (cs := #[.int .i64 a1_0, .int .i64 a1_1, .int .i64 a1_2, .int .i64 a1_3, .int .i64 a1_4]) (t := 27) ?hr ?_; (case hd => rfl); (case hg => rfl); (case hr => first | (go_simp; done) | (go_simp; rfl)); intro gb132 hg w3 hbox hb; have n0_ := aA.mk (aX (by repeat (first | (with_reducible first | exact HB.out | apply aH | apply aE | apply aG) | exact HB.out)) hb); have n1_ := aA.mk (hbox); have n2_ := aA.mk ((by rw [hg]; exact (aW (by repeat (first | (with_reducible first | exact HB.out | apply aH | apply aE | apply aG) | exact HB.out))) : w.heap.size ≤ gb132)); have n3_ := aA.mk ((by rw [hg]; exact (aW (by repeat (first | (with_reducible first | exact HB.out | apply aH | apply aE | apply aG) | exact HB.out))) : w.heap.size ≤ gb132)); clear HB; have HB := n0_; have BK132 := n1_; have GW132 := n2_; have GE132 := n3_; clear n0_ n1_ n2_ n3_; clear hb hbox hg) | ((with_reducible refine bL (N := 8) rfl ?_); refine Kd.R_lit k27 _ 27 ?hg (N := 8) ?hd (xs := ([] : List (S27))) (inner := []) (ok := fun _ => True) (okp := fun _ => True) ?hr ?hp (fun _ hk => hk) trivial (Below.refl _ _) (Nat.le_refl _) (by simp) ?_; (case hd => rfl); (case hg => rfl); (case hr => first | (go_simp; done) | (go_simp; rfl)); (case hp => exact (Reps.none _ _)); intro v134 w4 ho5 hb hg_ hnew_; clear hg_ hnew_; (first | rw [← Ny133.out] at ho5 | (simp only [Int.reduceToNat] at ho5; rw [← Ny133.out] at ho5)); have n0_ := aA.mk (Kd.R_lower (Kd.R_newB ho5 (g := gb132) (o := .cells #[.int .i64 a1_0, .int .i64 a1_1, .int .i64 a1_2, .int .i64 a1_3, .int .i64 a1_4] 27 (0, 0)) (by (with_reducible repeat (first | refine aJ ?_ _ | refine aM ?_ | refine aK ?_ _)); exact BK132.out)) (aW (by repeat (first | (with_reducible first | exact HB.out | apply aH | apply aE | apply aG | refine aN ?_ GE132.out) | exact HB.out)))); have n1_ := aA.mk (bE (g := gb132) (o := .cells #[.int .i64 a1_0, .int .i64 a1_1, .int .i64 a1_2, .int .i64 a1_3, .int .i64 a1_4] 27 (0, 0)) (by (with_reducible repeat (first | refine aJ ?_ _ | refine aM ?_ | refine aK ?_ _)); exact BK132.out) hb); have n2_ := aA.mk (aX (by repeat (first | (with_reducible first | exact HB.out | apply aH | apply aE | apply aG | refine aN ?_ GE132.out) | exact HB.out)) hb); clear BK132; clear HB; have HO135 := n0_; have BK132 := n1_; have HB := n2_; clear n0_ n1_ n2_; clear hb ho5))
 go_loopg [5, 6, 7] k (fun kq v5 v6 v7 w' => ∃ (x5_1 : List (S27)) (x6_1 : Bool) (x7_1 : Int), v6 = .bool x6_1 ∧ v7 = .int .i64 x7_1 ∧ aA (spec_SetPut.l0 kq l0 x5_1 x6_1 x7_1 a1_0 a1_1 a1_2 a1_3 a1_4 = some r) ∧ aA (kq ≤ k) ∧ aA (Kd.R k27 27 w' w.heap.size (fun k_ => k_ ≠ gb132) v5 x5_1) ∧ aA (w'.heap[gb132]? = some (.cells #[.int .i64 a1_0, .int .i64 a1_1, .int .i64 a1_2, .int .i64 a1_3, .int .i64 a1_4] 27 (0, 0))) ∧ aA (Below w.heap.size w w'))
 case atStart => exact ⟨(y133), (false), (0), (by first | rfl | (simp; done) | (simp [*]; done)), (by first | rfl | (simp; done) | (simp [*]; done)), H', ⟨Nat.le_refl _⟩, ⟨by (with_reducible repeat (first | apply Kd.bC | apply Kd.bD | apply Kd.aY)); exact Kd.R_mono HO135.out (fun _ hk => hk.2)⟩, ⟨by (with_reducible repeat (first | refine aJ ?_ _ | refine aM ?_ | refine aK ?_ _)); exact BK132.out⟩, ⟨by repeat (first | (with_reducible first | exact HB.out | apply aH | apply aE | apply aG | refine aN ?_ GE132.out) | exact HB.out)⟩⟩
 case round =>
  clear H'
  try clear p2
  try clear c5
  obtain ⟨x5_1, x6_1, x7_1, rfl, rfl, HA, HK1, HO_5, BK132, HB⟩ := hrel
  cases gk with
  | zero => exact absurd HA.out (by simp [spec_SetPut.l0])
  | succ k1 =>
   have H := HA.out
   clear HA
   simp only [spec_SetPut.l0] at H
   by_cases c6 : x7_1 < (l0.length : Int)
   ·rw [if_pos c6] at H
    have c6b0 : decide (x7_1 < (l0.length : Int)) = true := decide_eq_true c6
    clear c6
    have HC7 := aA.mk H
    clear H
    go_upto_region 6 with (fail)
    go_cut [25] (fun v25 wc => ∃ (kq : Nat) (x25_6 : Bool), v25 = .bool x25_6 ∧ aA (spec_SetPut.j1 kq l0 x5_1 x6_1 x7_1 x25_6 a1_0 a1_1 a1_2 a1_3 a1_4 = some r) ∧ aA (kq ≤ k1) ∧ aA (Kd.R k27 27 wc w.heap.size (fun k_ => k_ ≠ gb132) u5 x5_1) ∧ aA (wc.heap[gb132]? = some (.cells #[.int .i64 a1_0, .int .i64 a1_1, .int .i64 a1_2, .int .i64 a1_3, .int .i64 a1_4] 27 (0, 0))) ∧ aA (Below w.heap.size w wc))
    case first =>
     have H := HC7.out
     clear HC7
     by_cases c8 : x6_1 = true
     ·subst c8
      have H1 : (spec_SetPut.j1 k1 l0 x5_1 true x7_1 false a1_0 a1_1 a1_2 a1_3 a1_4) = some r := by rw [if_pos rfl] at H; exact H
      clear H
      have H := H1
      clear H1
      have H' := aA.mk H
      clear H
      try go_wp2
      have n0_ := aA.mk (Kd.aY HO_5.out)
      have n1_ := aA.mk (aM BK132.out)
      have n2_ := aA.mk (aG HB.out)
      clear HO_5
      clear BK132
      clear HB
      have HO_5 := n0_
      have BK132 := n1_
      have HB := n2_
      clear n0_ n1_ n2_
      refine start_ (n := 11) (S := fun w' => True) (ds := []) #[false, false, false, false, false, false, false, false, false, false, false] (by kernel_rfl) rfl rfl trivial (fun hHeld => ?_); refine with_tabW spec_SetPut.tab6 spec_SetPut.bits6 (fun HT_ HW_ => ?_)
      generalize wr.drew = w9 at HO_5 BK132 HB hHeld ⊢
      refine aU (i := 0) (N := some 15) (v := ?_) (a' := ?_) #[true, false, false, false, false, false, false, false, false, false, false] rfl rfl (bH HT_.out (by kernel_rfl)) (fun _ _ _ h => h) (Or.inl ⟨by rfl, ?_⟩) ?_ ?_
      rotate_left
      ·intro w'
       go_simp
       with_reducible rfl
      rotate_left
      ·simp only [Act.put, lA, lB, lC, aQ, aT]
       rfl
      refine aU (i := 1) (N := some 16) (v := ?_) (a' := ?_) #[true, true, false, false, false, false, false, false, false, false, false] rfl rfl (bH HT_.out (by kernel_rfl)) (fun _ _ _ h => h) (Or.inl ⟨by rfl, ?_⟩) ?_ ?_
      rotate_left
      ·intro w'
       go_simp
       with_reducible rfl
      rotate_left
      ·simp only [Act.put, lA, lB, lC, aQ, aT]
       rfl
      refine aU (i := 2) (N := some 17) (v := ?_) (a' := ?_) #[true, true, true, false, false, false, false, false, false, false, false] rfl rfl (bH HT_.out (by kernel_rfl)) (fun _ _ _ h => h) (Or.inl ⟨by rfl, ?_⟩) ?_ ?_
      rotate_left
      ·intro w'
       go_simp
       with_reducible rfl
      rotate_left
      ·simp only [Act.put, lA, lB, lC, aQ, aT]
       rfl
      refine aU (i := 3) (N := some 18) (v := undef) (a' := ?_) #[true, true, true, true, false, false, false, false, false, false, false] rfl rfl (bH HT_.out (by kernel_rfl)) (fun _ _ _ h => h) (Or.inr ⟨by rfl, rfl⟩) ?_ ?_
      rotate_left
      ·simp only [Act.put, lA, lB, lC, aQ, aT]
       rfl
      refine aU (i := 4) (N := some 19) (v := undef) (a' := ?_) #[true, true, true, true, true, false, false, false, false, false, false] rfl rfl (bH HT_.out (by kernel_rfl)) (fun _ _ _ h => h) (Or.inr ⟨by rfl, rfl⟩) ?_ ?_
      rotate_left
      ·simp only [Act.put, lA, lB, lC, aQ, aT]
       rfl
      refine aU (i := 5) (N := some 20) (v := undef) (a' := ?_) #[true, true, true, true, true, true, false, false, false, false, false] rfl rfl (bH HT_.out (by kernel_rfl)) (fun _ _ _ h => h) (Or.inr ⟨by rfl, rfl⟩) ?_ ?_
      rotate_left
      ·simp only [Act.put, lA, lB, lC, aQ, aT]
       rfl
      refine aU (i := 6) (N := some 21) (v := undef) (a' := ?_) #[true, true, true, true, true, true, true, false, false, false, false] rfl rfl (bH HT_.out (by kernel_rfl)) (fun _ _ _ h => h) (Or.inr ⟨by rfl, rfl⟩) ?_ ?_
      rotate_left
      ·simp only [Act.put, lA, lB, lC, aQ, aT]
       rfl
      refine aU (i := 7) (N := some 22) (v := undef) (a' := ?_) #[true, true, true, true, true, true, true, true, false, false, false] rfl rfl (bH HT_.out (by kernel_rfl)) (fun _ _ _ h => h) (Or.inr ⟨by rfl, rfl⟩) ?_ ?_
      rotate_left
      ·simp only [Act.put, lA, lB, lC, aQ, aT]
       rfl
      refine aU (i := 8) (N := some 23) (v := undef) (a' := ?_) #[true, true, true, true, true, true, true, true, true, false, false] rfl rfl (bH HT_.out (by kernel_rfl)) (fun _ _ _ h => h) (Or.inr ⟨by rfl, rfl⟩) ?_ ?_
      rotate_left
      ·simp only [Act.put, lA, lB, lC, aQ, aT]
       rfl
      refine aU (i := 9) (N := some 24) (v := undef) (a' := ?_) #[true, true, true, true, true, true, true, true, true, true, false] rfl rfl (bH HT_.out (by kernel_rfl)) (fun _ _ _ h => h) (Or.inr ⟨by rfl, rfl⟩) ?_ ?_
      rotate_left
      ·simp only [Act.put, lA, lB, lC, aQ, aT]
       rfl
      refine aU (i := 10) (N := some 25) (v := ?_) (a' := ?_) #[true, true, true, true, true, true, true, true, true, true, true] rfl rfl (bH HT_.out (by kernel_rfl)) (fun _ _ _ h => h) (Or.inl ⟨by rfl, ?_⟩) ?_ ?_
      rotate_left
      ·intro w'
       go_simp
       with_reducible rfl
      rotate_left
      ·simp only [Act.put, lA, lB, lC, aQ, aT]
       rfl
      refine done_ (done_of HT_.out (by kernel_rfl)) ?_
      try go_wp2
      go_meet
      case rel => exact ⟨_, (false), (by first | rfl | (simp; done) | (simp [*]; done)), H', ⟨by have := HK1.out; first | omega | exact Nat.le_refl _⟩, ⟨by (with_reducible repeat (first | apply Kd.bC | apply Kd.bD | apply Kd.aY)); exact HO_5.out⟩, ⟨by (with_reducible repeat (first | refine aJ ?_ _ | refine aM ?_ | refine aK ?_ _)); exact BK132.out⟩, ⟨by repeat (first | (with_reducible first | exact HB.out | apply aH | apply aE | apply aG | refine aN ?_ GE132.out) | exact HB.out)⟩⟩
     ·replace c8 := Bool.eq_false_iff.mpr c8
      subst c8
      have H1 : (if 0 ≤ x7_1 then ((spec_LessKey.f ((rd_T27 l0 x7_1).f0) ((rd_T27 l0 x7_1).f1) ((rd_T27 l0 x7_1).f2) ((rd_T27 l0 x7_1).f3) ((rd_T27 l0 x7_1).f4) a1_0 a1_1 a1_2 a1_3 a1_4).bind fun t140 => (spec_SetPut.j1 k1 l0 x5_1 false x7_1 (!t140) a1_0 a1_1 a1_2 a1_3 a1_4)) else (none)) = some r := by rw [if_neg (show ¬ (false = true) by decide)] at H; exact H
      clear H
      have H := H1
      clear H1
      by_cases c10 : 0 ≤ x7_1
      ·rw [if_pos c10] at H
       have c10b0 : decide (0 ≤ x7_1) = true := decide_eq_true c10
       clear c10
       (first | rw [c10b0] | (simp only [aQ, aT]; rw [c10b0]) | skip)
       replace H := lF H
       obtain ⟨t140, A110, H⟩ := H
       replace H : (spec_SetPut.j1 k1 l0 x5_1 false x7_1 (!t140) a1_0 a1_1 a1_2 a1_3 a1_4) = some r := H
       have A11 := aA.mk A110
       clear A110
       have H' := aA.mk H
       clear H
       try go_wp2
       have n0_ := aA.mk (Kd.aY HO_5.out)
       have n1_ := aA.mk (aM BK132.out)
       have n2_ := aA.mk (aG HB.out)
       clear HO_5
       clear BK132
       clear HB
       have HO_5 := n0_
       have BK132 := n1_
       have HB := n2_
       clear n0_ n1_ n2_
       have p139 : 0 ≤ (x7_1 : Int) := lE (by first | (with_reducible assumption) | assumption)
       have q139 : x7_1 < (l0.length : Int) := lE (by first | (with_reducible assumption) | assumption)
       obtain ⟨ad139, e139, hx139_0, hx139_1, hx139_2, hx139_3, hx139_4⟩ := at_T27 HR0.out x7_1 p139 q139
       have hw139_4 := hx139_4
       have hw139_3 := hx139_3
       have hw139_2 := hx139_2
       have hw139_1 := hx139_1
       have hw139_0 := hx139_0
       cases e139
       replace hx139_0 := (HB.out.cell (lD w _ hx139_0)).trans hx139_0
       replace hx139_1 := (HB.out.cell (lD w _ hx139_1)).trans hx139_1
       replace hx139_2 := (HB.out.cell (lD w _ hx139_2)).trans hx139_2
       replace hx139_3 := (HB.out.cell (lD w _ hx139_3)).trans hx139_3
       replace hx139_4 := (HB.out.cell (lD w _ hx139_4)).trans hx139_4
       replace p139 := eq_true p139
       replace q139 := eq_true q139
       refine start_ (n := 11) (S := fun w' => w'.cell? ⟨gb132, 0, none⟩ = some (.int .i64 a1_0) ∧ w'.cell? ⟨gb132, 1, none⟩ = some (.int .i64 a1_1) ∧ w'.cell? ⟨gb132, 2, none⟩ = some (.int .i64 a1_2) ∧ w'.cell? ⟨gb132, 3, none⟩ = some (.int .i64 a1_3) ∧ w'.cell? ⟨gb132, 4, none⟩ = some (.int .i64 a1_4) ∧ w'.cell? (ad139.add ((x7_1).toNat * 5)) = some (.int .i64 ((rd_T27 l0 x7_1).f0)) ∧ w'.cell? ⟨(ad139.add ((x7_1).toNat * 5)).block, (ad139.add ((x7_1).toNat * 5)).off + 1, none⟩ = some (.int .i64 ((rd_T27 l0 x7_1).f1)) ∧ w'.cell? ⟨(ad139.add ((x7_1).toNat * 5)).block, (ad139.add ((x7_1).toNat * 5)).off + 2, none⟩ = some (.int .i64 ((rd_T27 l0 x7_1).f2)) ∧ w'.cell? ⟨(ad139.add ((x7_1).toNat * 5)).block, (ad139.add ((x7_1).toNat * 5)).off + 3, none⟩ = some (.int .i64 ((rd_T27 l0 x7_1).f3)) ∧ w'.cell? ⟨(ad139.add ((x7_1).toNat * 5)).block, (ad139.add ((x7_1).toNat * 5)).off + 4, none⟩ = some (.int .i64 ((rd_T27 l0 x7_1).f4))) (ds := []) #[false, false, false, false, false, false, false, false, false, false, false] (by kernel_rfl) rfl rfl ⟨(aC BK132.out 0).trans rfl, (aC BK132.out 1).trans rfl, (aC BK132.out 2).trans rfl, (aC BK132.out 3).trans rfl, (aC BK132.out 4).trans rfl, ((HB.out.cell (lD w _ hw139_0)).trans hw139_0), ((HB.out.cell (lD w _ hw139_1)).trans hw139_1), ((HB.out.cell (lD w _ hw139_2)).trans hw139_2), ((HB.out.cell (lD w _ hw139_3)).trans hw139_3), ((HB.out.cell (lD w _ hw139_4)).trans hw139_4)⟩ (fun hHeld => ?_); refine with_tabW spec_SetPut.tab6 spec_SetPut.bits6 (fun HT_ HW_ => ?_)
       generalize wr.drew = w12 at HO_5 BK132 HB hx139_0 hx139_1 hx139_2 hx139_3 hx139_4 hHeld ⊢
       refine aU (i := 0) (N := some 15) (v := ?_) (a' := ?_) #[true, false, false, false, false, false, false, false, false, false, false] rfl rfl (bH HT_.out (by kernel_rfl)) (fun _ _ _ h => h) (Or.inl ⟨by rfl, ?_⟩) ?_ ?_
       rotate_left
       ·intro w'
        go_simp
        with_reducible rfl
       rotate_left
       ·simp only [Act.put, lA, lB, lC, aQ, aT]
        rfl
       refine aU (i := 1) (N := some 16) (v := ?_) (a' := ?_) #[true, true, false, false, false, false, false, false, false, false, false] rfl rfl (bH HT_.out (by kernel_rfl)) (fun _ _ _ h => h) (Or.inl ⟨by rfl, ?_⟩) ?_ ?_
       rotate_left
       ·intro w'
        go_simp
        with_reducible rfl
       rotate_left
       ·simp only [Act.put, lA, lB, lC, aQ, aT]
        rfl
       refine aU (i := 2) (N := some 17) (v := ?_) (a' := ?_) #[true, true, true, false, false, false, false, false, false, false, false] rfl rfl (bH HT_.out (by kernel_rfl)) (fun _ _ _ h => h) (Or.inl ⟨by rfl, ?_⟩) ?_ ?_
       rotate_left
       ·intro w'
        go_simp
        with_reducible rfl
       rotate_left
       ·simp only [Act.put, lA, lB, lC, aQ, aT]
        rfl
       refine aU (i := 3) (N := some 18) (v := ?_) (a' := ?_) #[true, true, true, true, false, false, false, false, false, false, false] rfl rfl (bH HT_.out (by kernel_rfl)) (fun _ _ _ h => h) (Or.inl ⟨by rfl, ?_⟩) ?_ ?_
       rotate_left
       ·intro w'
        go_simp
        with_reducible rfl
       rotate_left
       ·simp only [Act.put, lA, lB, lC, aQ, aT]
        rfl
       refine aU (i := 4) (N := some 19) (v := ?_) (a' := ?_) #[true, true, true, true, true, false, false, false, false, false, false] rfl rfl (bH HT_.out (by kernel_rfl)) (fun _ _ _ h => h) (Or.inl ⟨by rfl, ?_⟩) ?_ ?_
       rotate_left
       ·intro w'
        go_simp
        with_reducible rfl
       rotate_left
       ·simp only [Act.put, lA, lB, lC, aQ, aT]
        rfl
       refine aU (i := 5) (N := some 20) (v := ?_) (a' := ?_) #[true, true, true, true, true, true, false, false, false, false, false] rfl rfl (bH HT_.out (by kernel_rfl)) (fun _ _ _ h => h) (Or.inl ⟨by rfl, ?_⟩) ?_ ?_
       rotate_left
       ·intro w'
        go_simp
        with_reducible rfl
       rotate_left
       ·simp only [Act.put, lA, lB, lC, aQ, aT]
        rfl
       refine take_ (i := 6) (N := some 21) (v := ?_) (a' := ?_) #[true, true, true, true, true, true, true, false, false, false, false] rfl rfl (take_ofW HT_.out HW_.out (by kernel_rfl)) (fun _ _ _ h => h) (Or.inl ⟨by rfl, ?_⟩) hHeld ?_ ?_
       rotate_left
       ·rintro w' ⟨s0, s1, s2, s3, s4, s5, s6, s7, s8, s9⟩
        go_simp
        with_reducible rfl
       rotate_left
       ·simp only [Act.put, lA, lB, lC, aQ, aT]
        rfl
       refine take_ (i := 7) (N := some 22) (v := ?_) (a' := ?_) #[true, true, true, true, true, true, true, true, false, false, false] rfl rfl (take_ofW HT_.out HW_.out (by kernel_rfl)) (fun _ _ _ h => h) (Or.inl ⟨by rfl, ?_⟩) hHeld ?_ ?_
       rotate_left
       ·rintro w' ⟨s0, s1, s2, s3, s4, s5, s6, s7, s8, s9⟩
        go_simp
        with_reducible rfl
       rotate_left
       ·simp only [Act.put, lA, lB, lC, aQ, aT]
        rfl
       refine one_ (i := 8) (N := some 23) #[true, true, true, true, true, true, true, true, true, false, false] rfl rfl (one_of HT_.out (by kernel_rfl)) (by decide) (fun K hK => ?_)
       refine goes_ Try.func79 (by kernel_rfl) rfl #[.agg #[.int .i64 ((rd_T27 l0 x7_1).f0), .int .i64 ((rd_T27 l0 x7_1).f1), .int .i64 ((rd_T27 l0 x7_1).f2), .int .i64 ((rd_T27 l0 x7_1).f3), .int .i64 ((rd_T27 l0 x7_1).f4)], .agg #[.int .i64 a1_0, .int .i64 a1_1, .int .i64 a1_2, .int .i64 a1_3, .int .i64 a1_4]] (by rfl) rfl rfl (by (try simp only [List.map_toArray, List.map_cons, List.map_nil]); first | done | rfl | (simp only [List.length_drop, List.length_take]; rfl)) ?_
       with_reducible refine (spec_LessKey.calls ((rd_T27 l0 x7_1).f0) ((rd_T27 l0 x7_1).f1) ((rd_T27 l0 x7_1).f2) ((rd_T27 l0 x7_1).f3) ((rd_T27 l0 x7_1).f4) a1_0 a1_1 a1_2 a1_3 a1_4 t140 _ A11.out).mono ?_
       rintro e w13 ⟨rfl, hb⟩
       refine ⟨_, rfl, ?_⟩
       have n0_ := aA.mk (Kd.bB (by (with_reducible repeat (first | apply Kd.bC | apply Kd.bD | apply Kd.aY)); exact HO_5.out) hb)
       have n1_ := aA.mk (bE (g := gb132) (o := .cells #[.int .i64 a1_0, .int .i64 a1_1, .int .i64 a1_2, .int .i64 a1_3, .int .i64 a1_4] 27 (0, 0)) (by (with_reducible repeat (first | refine aJ ?_ _ | refine aM ?_ | refine aK ?_ _)); exact BK132.out) hb)
       have n2_ := aA.mk (aX (by repeat (first | (with_reducible first | exact HB.out | apply aH | apply aE | apply aG | refine aN ?_ GE132.out) | exact HB.out)) hb)
       clear HO_5
       clear BK132
       clear HB
       have HO_5 := n0_
       have BK132 := n1_
       have HB := n2_
       clear n0_ n1_ n2_
       (try clear hb)
       (try clear hb2)
       (try clear hk)
       (try clear hi)
       refine hK.out _ _ ⟨(aC BK132.out 0).trans rfl, (aC BK132.out 1).trans rfl, (aC BK132.out 2).trans rfl, (aC BK132.out 3).trans rfl, (aC BK132.out 4).trans rfl, ((HB.out.cell (lD w _ hw139_0)).trans hw139_0), ((HB.out.cell (lD w _ hw139_1)).trans hw139_1), ((HB.out.cell (lD w _ hw139_2)).trans hw139_2), ((HB.out.cell (lD w _ hw139_3)).trans hw139_3), ((HB.out.cell (lD w _ hw139_4)).trans hw139_4)⟩ (fun hHeld => ?_)
       clear hK K
       refine norm_ (a' := ?_) ?_ ?_
       rotate_left
       ·show Act.put _ (some 23) _ = _
        simp only [Act.put, lA, lB, lC, aQ, aT]
        rfl
       refine aU (i := 9) (N := some 24) (v := ?_) (a' := ?_) #[true, true, true, true, true, true, true, true, true, true, false] rfl rfl (bH HT_.out (by kernel_rfl)) (fun _ _ _ h => h) (Or.inl ⟨by rfl, ?_⟩) ?_ ?_
       rotate_left
       ·intro w'
        go_simp
        with_reducible rfl
       rotate_left
       ·simp only [Act.put, lA, lB, lC, aQ, aT]
        rfl
       refine aU (i := 10) (N := some 25) (v := ?_) (a' := ?_) #[true, true, true, true, true, true, true, true, true, true, true] rfl rfl (bH HT_.out (by kernel_rfl)) (fun _ _ _ h => h) (Or.inl ⟨by rfl, ?_⟩) ?_ ?_
       rotate_left
       ·intro w'
        go_simp
        with_reducible rfl
       rotate_left
       ·simp only [Act.put, lA, lB, lC, aQ, aT]
        rfl
       refine done_ (done_of HT_.out (by kernel_rfl)) ?_
       try go_wp2
       go_meet
       case rel => exact ⟨_, (!t140), (by first | rfl | (simp; done) | (simp [*]; done)), H', ⟨by have := HK1.out; first | omega | exact Nat.le_refl _⟩, ⟨by (with_reducible repeat (first | apply Kd.bC | apply Kd.bD | apply Kd.aY)); exact HO_5.out⟩, ⟨by (with_reducible repeat (first | refine aJ ?_ _ | refine aM ?_ | refine aK ?_ _)); exact BK132.out⟩, ⟨by repeat (first | (with_reducible first | exact HB.out | apply aH | apply aE | apply aG | refine aN ?_ GE132.out) | exact HB.out)⟩⟩
      ·rw [if_neg c10] at H
       exact absurd H (by simp)
    case rest =>
     clear HC7
     try clear c1
     try clear p1
     try clear q1
     try clear hx1
     try clear p2
     try clear c5
     try clear c6
     try clear c6b0
     try clear c7
     try clear c8
     try clear c10
     try clear c10b0
     try clear p13
     try clear q13
     try clear hx13
     try clear hx139_0
     try clear hx139_1
     try clear hx139_2
     try clear hx139_3
     try clear hx139_4
     try clear p139
     try clear p2
     try clear q139
     obtain ⟨kq, x25_6, rfl, HA, HJ6, HO_5, BK132, HB⟩ := hcut
     cases kq with
     | zero => exact absurd HA.out (by simp [spec_SetPut.j1])
     | succ kj6 =>
      have H := HA.out
      clear HA
      simp only [spec_SetPut.j1] at H
      by_cases c14 : x25_6 = true
      ·subst c14
       have H1 : (if x5_1.length < 3518437208883 then ((some (x5_1 ++ [(⟨a1_0, a1_1, a1_2, a1_3, a1_4⟩ : S27)] : List (S27))).bind fun y141 => (if 0 ≤ x7_1 then (if x7_1 < (l0.length : Int) then ((spec_SameSpot.f ((rd_T27 l0 x7_1).f0) ((rd_T27 l0 x7_1).f1) ((rd_T27 l0 x7_1).f2) ((rd_T27 l0 x7_1).f3) ((rd_T27 l0 x7_1).f4) a1_0 a1_1 a1_2 a1_3 a1_4).bind fun t145 => (if t145 = true then (spec_SetPut.l0 kj6 l0 y141 true (wrap64 (x7_1 + 1)) a1_0 a1_1 a1_2 a1_3 a1_4) else (if y141.length < 3518437208883 then (spec_SetPut.l0 kj6 l0 (y141 ++ [(⟨(rd_T27 l0 x7_1).f0, (rd_T27 l0 x7_1).f1, (rd_T27 l0 x7_1).f2, (rd_T27 l0 x7_1).f3, (rd_T27 l0 x7_1).f4⟩ : S27)]) true (wrap64 (x7_1 + 1)) a1_0 a1_1 a1_2 a1_3 a1_4) else (none)))) else (none)) else (none))) else (none)) = some r := by rw [if_pos rfl] at H; exact H
       clear H
       have H := H1
       clear H1
       by_cases c15 : x5_1.length < 3518437208883
       ·rw [if_pos c15] at H
        have LMc15 := aA.mk c15
        clear c15
        obtain ⟨y141, hy141⟩ : ∃ y_ : List (S27), y_ = (x5_1 ++ [(⟨a1_0, a1_1, a1_2, a1_3, a1_4⟩ : S27)]) := ⟨_, rfl⟩
        replace H : (if 0 ≤ x7_1 then (if x7_1 < (l0.length : Int) then ((spec_SameSpot.f ((rd_T27 l0 x7_1).f0) ((rd_T27 l0 x7_1).f1) ((rd_T27 l0 x7_1).f2) ((rd_T27 l0 x7_1).f3) ((rd_T27 l0 x7_1).f4) a1_0 a1_1 a1_2 a1_3 a1_4).bind fun t145 => (if t145 = true then (spec_SetPut.l0 kj6 l0 y141 true (wrap64 (x7_1 + 1)) a1_0 a1_1 a1_2 a1_3 a1_4) else (if y141.length < 3518437208883 then (spec_SetPut.l0 kj6 l0 (y141 ++ [(⟨(rd_T27 l0 x7_1).f0, (rd_T27 l0 x7_1).f1, (rd_T27 l0 x7_1).f2, (rd_T27 l0 x7_1).f3, (rd_T27 l0 x7_1).f4⟩ : S27)]) true (wrap64 (x7_1 + 1)) a1_0 a1_1 a1_2 a1_3 a1_4) else (none)))) else (none)) else (none)) = some r := by first | (rw [hy141]; with_reducible exact H) | (have H2_ := (Option.bind_some _ _).symm.trans H; rw [hy141]; with_reducible exact H2_) | (have H2_ := (Option.bind_some _ _).symm.trans H; with_reducible exact H2_) | with_reducible exact H | (rw [hy141]; exact H) | exact H
        have Ny141 := aA.mk hy141
        clear hy141
        by_cases c16 : 0 ≤ x7_1
        ·rw [if_pos c16] at H
         have c16b0 : decide (0 ≤ x7_1) = true := decide_eq_true c16
         clear c16
         by_cases c17 : x7_1 < (l0.length : Int)
         ·rw [if_pos c17] at H
          have c17b0 : decide (x7_1 < (l0.length : Int)) = true := decide_eq_true c17
          clear c17
          replace H := lF H
          obtain ⟨t145, A180, H⟩ := H
          replace H : (if t145 = true then (spec_SetPut.l0 kj6 l0 y141 true (wrap64 (x7_1 + 1)) a1_0 a1_1 a1_2 a1_3 a1_4) else (if y141.length < 3518437208883 then (spec_SetPut.l0 kj6 l0 (y141 ++ [(⟨(rd_T27 l0 x7_1).f0, (rd_T27 l0 x7_1).f1, (rd_T27 l0 x7_1).f2, (rd_T27 l0 x7_1).f3, (rd_T27 l0 x7_1).f4⟩ : S27)]) true (wrap64 (x7_1 + 1)) a1_0 a1_1 a1_2 a1_3 a1_4) else (none))) = some r := H
          have A18 := aA.mk A180
          clear A180
          by_cases c19 : t145 = true
          ·subst c19
           have H1 : (spec_SetPut.l0 kj6 l0 y141 true (wrap64 (x7_1 + 1)) a1_0 a1_1 a1_2 a1_3 a1_4) = some r := by rw [if_pos rfl] at H; exact H
           clear H
           have H := H1
           clear H1
           have H' := aA.mk H
           clear H
           have hcz20_0 : wc.cell? ⟨gb132, 0, none⟩ = some (.int .i64 a1_0) := (aC BK132.out 0).trans rfl
           have hcz20_1 : wc.cell? ⟨gb132, 1, none⟩ = some (.int .i64 a1_1) := (aC BK132.out 1).trans rfl
           have hcz20_2 : wc.cell? ⟨gb132, 2, none⟩ = some (.int .i64 a1_2) := (aC BK132.out 2).trans rfl
           have hcz20_3 : wc.cell? ⟨gb132, 3, none⟩ = some (.int .i64 a1_3) := (aC BK132.out 3).trans rfl
           have hcz20_4 : wc.cell? ⟨gb132, 4, none⟩ = some (.int .i64 a1_4) := (aC BK132.out 4).trans rfl
           have hfz20_0 := aD BK132.out 0
           have hfz20_1 := aD BK132.out 1
           have hfz20_2 := aD BK132.out 2
           have hfz20_3 := aD BK132.out 3
           have hfz20_4 := aD BK132.out 4
           try go_wp2_with (first | ((with_reducible refine gate_builtin (b := .append) (xs := #[.tmp 26, .tmp 28]) rfl ?_); at_builtin; refine Kd.R_append k27 (w0 := w) w.heap.size rfl (.tmp 26) (.tmp 28) 58 27 (.agg #[(.int .i64 0), (.int .i64 0), (.int .i64 0), (.int .i64 0), (.int .i64 0)]) 40 rfl Try.underlying58 info27 rfl (by decide) (by omega) u5 x5_1 (⟨a1_0, a1_1, a1_2, a1_3, a1_4⟩ : S27) [.int .i64 a1_0, .int .i64 a1_1, .int .i64 a1_2, .int .i64 a1_3, .int .i64 a1_4] (fun k_ => k_ ≠ gb132) (fun _ => False) rfl rfl ?aP (fun _ hk => hk.elim) ?aF ?aO ?aB ?aS ?aL ?_; (case aP => exact k27_mkM _ _ _ (⟨a1_0, a1_1, a1_2, a1_3, a1_4⟩ : S27)); (case aB => exact (by repeat (first | (with_reducible first | exact HB.out | apply aH | apply aE | apply aG | refine aN ?_ GE132.out) | exact HB.out))); (case aF => exact (fun k_ hk => Kd.freshB (g := gb132) (o := .cells #[.int .i64 a1_0, .int .i64 a1_1, .int .i64 a1_2, .int .i64 a1_3, .int .i64 a1_4] 27 (0, 0)) (by (with_reducible repeat (first | refine aJ ?_ _ | refine aM ?_ | refine aK ?_ _)); exact BK132.out) k_ hk)); (case aO => exact (by (with_reducible repeat (first | apply Kd.bC | apply Kd.bD | apply Kd.aY)); exact HO_5.out)); (case aS => exact (aW (by repeat (first | (with_reducible first | exact HB.out | apply aH | apply aE | apply aG | refine aN ?_ GE132.out) | exact HB.out)))); (case aL => have := LMc15.out; omega); intro v142 w21 ho hb hg hat; rw [← Ny141.out] at ho; have n0_ := aA.mk (blk_grown (g := gb132) (o := .cells #[.int .i64 a1_0, .int .i64 a1_1, .int .i64 a1_2, .int .i64 a1_3, .int .i64 a1_4] 27 (0, 0)) (by (with_reducible repeat (first | refine aJ ?_ _ | refine aM ?_ | refine aK ?_ _)); exact BK132.out) hg (Kd.R_away HO_5.out (fun _ hk => hk))); have n1_ := aA.mk (hb); have n2_ := aA.mk (ho); clear BK132; clear HB; clear HO_5; have BK132 := n0_; have HB := n1_; have HO143 := n2_; clear n0_ n1_ n2_; clear ho hb hg hat))
           have n0_ := aA.mk (Kd.aY HO143.out)
           have n1_ := aA.mk (aM BK132.out)
           have n2_ := aA.mk (aG HB.out)
           clear HO143
           clear BK132
           clear HB
           have HO143 := n0_
           have BK132 := n1_
           have HB := n2_
           clear n0_ n1_ n2_
           have p144 : 0 ≤ (x7_1 : Int) := lE (by first | (with_reducible assumption) | assumption)
           have q144 : x7_1 < (l0.length : Int) := lE (by first | (with_reducible assumption) | assumption)
           obtain ⟨ad144, e144, hx144_0, hx144_1, hx144_2, hx144_3, hx144_4⟩ := at_T27 HR0.out x7_1 p144 q144
           have hw144_4 := hx144_4
           have hw144_3 := hx144_3
           have hw144_2 := hx144_2
           have hw144_1 := hx144_1
           have hw144_0 := hx144_0
           cases e144
           replace hx144_0 := (HB.out.cell (lD w _ hx144_0)).trans hx144_0
           replace hx144_1 := (HB.out.cell (lD w _ hx144_1)).trans hx144_1
           replace hx144_2 := (HB.out.cell (lD w _ hx144_2)).trans hx144_2
           replace hx144_3 := (HB.out.cell (lD w _ hx144_3)).trans hx144_3
           replace hx144_4 := (HB.out.cell (lD w _ hx144_4)).trans hx144_4
           replace p144 := eq_true p144
           replace q144 := eq_true q144
           refine start_ (n := 7) (S := fun w' => w'.cell? ⟨gb132, 0, none⟩ = some (.int .i64 a1_0) ∧ w'.cell? ⟨gb132, 1, none⟩ = some (.int .i64 a1_1) ∧ w'.cell? ⟨gb132, 2, none⟩ = some (.int .i64 a1_2) ∧ w'.cell? ⟨gb132, 3, none⟩ = some (.int .i64 a1_3) ∧ w'.cell? ⟨gb132, 4, none⟩ = some (.int .i64 a1_4) ∧ w'.cell? (ad144.add ((x7_1).toNat * 5)) = some (.int .i64 ((rd_T27 l0 x7_1).f0)) ∧ w'.cell? ⟨(ad144.add ((x7_1).toNat * 5)).block, (ad144.add ((x7_1).toNat * 5)).off + 1, none⟩ = some (.int .i64 ((rd_T27 l0 x7_1).f1)) ∧ w'.cell? ⟨(ad144.add ((x7_1).toNat * 5)).block, (ad144.add ((x7_1).toNat * 5)).off + 2, none⟩ = some (.int .i64 ((rd_T27 l0 x7_1).f2)) ∧ w'.cell? ⟨(ad144.add ((x7_1).toNat * 5)).block, (ad144.add ((x7_1).toNat * 5)).off + 3, none⟩ = some (.int .i64 ((rd_T27 l0 x7_1).f3)) ∧ w'.cell? ⟨(ad144.add ((x7_1).toNat * 5)).block, (ad144.add ((x7_1).toNat * 5)).off + 4, none⟩ = some (.int .i64 ((rd_T27 l0 x7_1).f4))) (ds := []) #[false, false, false, false, false, false, false] (by kernel_rfl) rfl rfl ⟨(aC BK132.out 0).trans rfl, (aC BK132.out 1).trans rfl, (aC BK132.out 2).trans rfl, (aC BK132.out 3).trans rfl, (aC BK132.out 4).trans rfl, ((HB.out.cell (lD w _ hw144_0)).trans hw144_0), ((HB.out.cell (lD w _ hw144_1)).trans hw144_1), ((HB.out.cell (lD w _ hw144_2)).trans hw144_2), ((HB.out.cell (lD w _ hw144_3)).trans hw144_3), ((HB.out.cell (lD w _ hw144_4)).trans hw144_4)⟩ (fun hHeld => ?_)
           generalize w21.drew = w22 at HO143 BK132 HB hx144_0 hx144_1 hx144_2 hx144_3 hx144_4 hHeld ⊢
           refine aU (i := 0) (N := some 30) (v := ?_) (a' := ?_) #[true, false, false, false, false, false, false] rfl rfl (by kernel_rfl) (fun _ _ _ h => h) (Or.inl ⟨by rfl, ?_⟩) ?_ ?_
           rotate_left
           ·intro w'
            go_simp
            with_reducible rfl
           rotate_left
           ·simp only [Act.put, lA, lB, lC, aQ, aT]
            rfl
           refine aU (i := 1) (N := some 31) (v := ?_) (a' := ?_) #[true, true, false, false, false, false, false] rfl rfl (by kernel_rfl) (fun _ _ _ h => h) (Or.inl ⟨by rfl, ?_⟩) ?_ ?_
           rotate_left
           ·intro w'
            go_simp
            with_reducible rfl
           rotate_left
           ·simp only [Act.put, lA, lB, lC, aQ, aT]
            rfl
           refine aU (i := 2) (N := some 32) (v := ?_) (a' := ?_) #[true, true, true, false, false, false, false] rfl rfl (by kernel_rfl) (fun _ _ _ h => h) (Or.inl ⟨by rfl, ?_⟩) ?_ ?_
           rotate_left
           ·intro w'
            go_simp
            with_reducible rfl
           rotate_left
           ·simp only [Act.put, lA, lB, lC, aQ, aT]
            rfl
           refine take_ (i := 3) (N := some 33) (v := ?_) (a' := ?_) #[true, true, true, true, false, false, false] rfl rfl (by kernel_rfl) (fun _ _ _ h => h) (Or.inl ⟨by rfl, ?_⟩) hHeld ?_ ?_
           rotate_left
           ·rintro w' ⟨s0, s1, s2, s3, s4, s5, s6, s7, s8, s9⟩
            go_simp
            with_reducible rfl
           rotate_left
           ·simp only [Act.put, lA, lB, lC, aQ, aT]
            rfl
           refine take_ (i := 4) (N := some 34) (v := ?_) (a' := ?_) #[true, true, true, true, true, false, false] rfl rfl (by kernel_rfl) (fun _ _ _ h => h) (Or.inl ⟨by rfl, ?_⟩) hHeld ?_ ?_
           rotate_left
           ·rintro w' ⟨s0, s1, s2, s3, s4, s5, s6, s7, s8, s9⟩
            go_simp
            with_reducible rfl
           rotate_left
           ·simp only [Act.put, lA, lB, lC, aQ, aT]
            rfl
           refine one_ (i := 5) (N := some 35) #[true, true, true, true, true, true, false] rfl rfl (by kernel_rfl) (by decide) (fun K hK => ?_)
           refine goes_ Try.func80 (by kernel_rfl) rfl #[.agg #[.int .i64 ((rd_T27 l0 x7_1).f0), .int .i64 ((rd_T27 l0 x7_1).f1), .int .i64 ((rd_T27 l0 x7_1).f2), .int .i64 ((rd_T27 l0 x7_1).f3), .int .i64 ((rd_T27 l0 x7_1).f4)], .agg #[.int .i64 a1_0, .int .i64 a1_1, .int .i64 a1_2, .int .i64 a1_3, .int .i64 a1_4]] (by rfl) rfl rfl (by (try simp only [List.map_toArray, List.map_cons, List.map_nil]); first | done | rfl | (simp only [List.length_drop, List.length_take]; rfl)) ?_
           with_reducible refine (spec_SameSpot.calls ((rd_T27 l0 x7_1).f0) ((rd_T27 l0 x7_1).f1) ((rd_T27 l0 x7_1).f2) ((rd_T27 l0 x7_1).f3) ((rd_T27 l0 x7_1).f4) a1_0 a1_1 a1_2 a1_3 a1_4 true _ A18.out).mono ?_
           rintro e w23 ⟨rfl, hb⟩
           refine ⟨_, rfl, ?_⟩
           have n0_ := aA.mk (Kd.bB (by (with_reducible repeat (first | apply Kd.bC | apply Kd.bD | apply Kd.aY)); exact HO143.out) hb)
           have n1_ := aA.mk (bE (g := gb132) (o := .cells #[.int .i64 a1_0, .int .i64 a1_1, .int .i64 a1_2, .int .i64 a1_3, .int .i64 a1_4] 27 (0, 0)) (by (with_reducible repeat (first | refine aJ ?_ _ | refine aM ?_ | refine aK ?_ _)); exact BK132.out) hb)
           have n2_ := aA.mk (aX (by repeat (first | (with_reducible first | exact HB.out | apply aH | apply aE | apply aG | refine aN ?_ GE132.out) | exact HB.out)) hb)
           clear HO143
           clear BK132
           clear HB
           have HO143 := n0_
           have BK132 := n1_
           have HB := n2_
           clear n0_ n1_ n2_
           (try clear hb)
           (try clear hb2)
           (try clear hk)
           (try clear hi)
           refine hK.out _ _ ⟨(aC BK132.out 0).trans rfl, (aC BK132.out 1).trans rfl, (aC BK132.out 2).trans rfl, (aC BK132.out 3).trans rfl, (aC BK132.out 4).trans rfl, ((HB.out.cell (lD w _ hw144_0)).trans hw144_0), ((HB.out.cell (lD w _ hw144_1)).trans hw144_1), ((HB.out.cell (lD w _ hw144_2)).trans hw144_2), ((HB.out.cell (lD w _ hw144_3)).trans hw144_3), ((HB.out.cell (lD w _ hw144_4)).trans hw144_4)⟩ (fun hHeld => ?_)
           clear hK K
           refine norm_ (a' := ?_) ?_ ?_
           rotate_left
           ·show Act.put _ (some 35) _ = _
            simp only [Act.put, lA, lB, lC, aQ, aT]
            rfl
           refine aU (i := 6) (N := some 36) (v := ?_) (a' := ?_) #[true, true, true, true, true, true, true] rfl rfl (by kernel_rfl) (fun _ _ _ h => h) (Or.inl ⟨by rfl, ?_⟩) ?_ ?_
           rotate_left
           ·intro w'
            go_simp
            with_reducible rfl
           rotate_left
           ·simp only [Act.put, lA, lB, lC, aQ, aT]
            rfl
           refine done_ (by kernel_rfl) ?_
           try go_wp2
           go_roundg kj6
           case measure => have := HK1.out; have := HJ6.out; omega
           case rel => exact ⟨(y141), (true), (wrap64 (x7_1 + 1)), (by first | rfl | (simp; done) | (simp [*]; done)), (by first | rfl | (simp; done) | (simp [*]; done)), H', ⟨by have := HK1.out; have := HJ6.out; omega⟩, ⟨by (with_reducible repeat (first | apply Kd.bC | apply Kd.bD | apply Kd.aY)); exact HO143.out⟩, ⟨by (with_reducible repeat (first | refine aJ ?_ _ | refine aM ?_ | refine aK ?_ _)); exact BK132.out⟩, ⟨by repeat (first | (with_reducible first | exact HB.out | apply aH | apply aE | apply aG | refine aN ?_ GE132.out) | exact HB.out)⟩⟩
          ·replace c19 := Bool.eq_false_iff.mpr c19
           subst c19
           have H1 : (if y141.length < 3518437208883 then (spec_SetPut.l0 kj6 l0 (y141 ++ [(⟨(rd_T27 l0 x7_1).f0, (rd_T27 l0 x7_1).f1, (rd_T27 l0 x7_1).f2, (rd_T27 l0 x7_1).f3, (rd_T27 l0 x7_1).f4⟩ : S27)]) true (wrap64 (x7_1 + 1)) a1_0 a1_1 a1_2 a1_3 a1_4) else (none)) = some r := by rw [if_neg (show ¬ (false = true) by decide)] at H; exact H
           clear H
           have H := H1
           clear H1
           by_cases c24 : y141.length < 3518437208883
           ·rw [if_pos c24] at H
            have LMc24 := aA.mk c24
            clear c24
            obtain ⟨y147, hy147⟩ : ∃ y_ : List (S27), y_ = (y141 ++ [(⟨(rd_T27 l0 x7_1).f0, (rd_T27 l0 x7_1).f1, (rd_T27 l0 x7_1).f2, (rd_T27 l0 x7_1).f3, (rd_T27 l0 x7_1).f4⟩ : S27)]) := ⟨_, rfl⟩
            replace H : (spec_SetPut.l0 kj6 l0 y147 true (wrap64 (x7_1 + 1)) a1_0 a1_1 a1_2 a1_3 a1_4) = some r := by first | (rw [hy147]; with_reducible exact H) | (have H2_ := (Option.bind_some _ _).symm.trans H; rw [hy147]; with_reducible exact H2_) | (have H2_ := (Option.bind_some _ _).symm.trans H; with_reducible exact H2_) | with_reducible exact H | (rw [hy147]; exact H) | exact H
            have Ny147 := aA.mk hy147
            clear hy147
            have H' := aA.mk H
            clear H
            have hcz25_0 : wc.cell? ⟨gb132, 0, none⟩ = some (.int .i64 a1_0) := (aC BK132.out 0).trans rfl
            have hcz25_1 : wc.cell? ⟨gb132, 1, none⟩ = some (.int .i64 a1_1) := (aC BK132.out 1).trans rfl
            have hcz25_2 : wc.cell? ⟨gb132, 2, none⟩ = some (.int .i64 a1_2) := (aC BK132.out 2).trans rfl
            have hcz25_3 : wc.cell? ⟨gb132, 3, none⟩ = some (.int .i64 a1_3) := (aC BK132.out 3).trans rfl
            have hcz25_4 : wc.cell? ⟨gb132, 4, none⟩ = some (.int .i64 a1_4) := (aC BK132.out 4).trans rfl
            have hfz25_0 := aD BK132.out 0
            have hfz25_1 := aD BK132.out 1
            have hfz25_2 := aD BK132.out 2
            have hfz25_3 := aD BK132.out 3
            have hfz25_4 := aD BK132.out 4
            try go_wp2_with (first | ((with_reducible refine gate_builtin (b := .append) (xs := #[.tmp 26, .tmp 28]) rfl ?_); at_builtin; refine Kd.R_append k27 (w0 := w) w.heap.size rfl (.tmp 26) (.tmp 28) 58 27 (.agg #[(.int .i64 0), (.int .i64 0), (.int .i64 0), (.int .i64 0), (.int .i64 0)]) 40 rfl Try.underlying58 info27 rfl (by decide) (by omega) u5 x5_1 (⟨a1_0, a1_1, a1_2, a1_3, a1_4⟩ : S27) [.int .i64 a1_0, .int .i64 a1_1, .int .i64 a1_2, .int .i64 a1_3, .int .i64 a1_4] (fun k_ => k_ ≠ gb132) (fun _ => False) rfl rfl ?aP (fun _ hk => hk.elim) ?aF ?aO ?aB ?aS ?aL ?_; (case aP => exact k27_mkM _ _ _ (⟨a1_0, a1_1, a1_2, a1_3, a1_4⟩ : S27)); (case aB => exact (by repeat (first | (with_reducible first | exact HB.out | apply aH | apply aE | apply aG | refine aN ?_ GE132.out) | exact HB.out))); (case aF => exact (fun k_ hk => Kd.freshB (g := gb132) (o := .cells #[.int .i64 a1_0, .int .i64 a1_1, .int .i64 a1_2, .int .i64 a1_3, .int .i64 a1_4] 27 (0, 0)) (by (with_reducible repeat (first | refine aJ ?_ _ | refine aM ?_ | refine aK ?_ _)); exact BK132.out) k_ hk)); (case aO => exact (by (with_reducible repeat (first | apply Kd.bC | apply Kd.bD | apply Kd.aY)); exact HO_5.out)); (case aS => exact (aW (by repeat (first | (with_reducible first | exact HB.out | apply aH | apply aE | apply aG | refine aN ?_ GE132.out) | exact HB.out)))); (case aL => have := LMc15.out; omega); intro v142 w26 ho hb hg hat; rw [← Ny141.out] at ho; have n0_ := aA.mk (blk_grown (g := gb132) (o := .cells #[.int .i64 a1_0, .int .i64 a1_1, .int .i64 a1_2, .int .i64 a1_3, .int .i64 a1_4] 27 (0, 0)) (by (with_reducible repeat (first | refine aJ ?_ _ | refine aM ?_ | refine aK ?_ _)); exact BK132.out) hg (Kd.R_away HO_5.out (fun _ hk => hk))); have n1_ := aA.mk (hb); have n2_ := aA.mk (ho); clear BK132; clear HB; clear HO_5; have BK132 := n0_; have HB := n1_; have HO143 := n2_; clear n0_ n1_ n2_; clear ho hb hg hat))
            have n0_ := aA.mk (Kd.aY HO143.out)
            have n1_ := aA.mk (aM BK132.out)
            have n2_ := aA.mk (aG HB.out)
            clear HO143
            clear BK132
            clear HB
            have HO143 := n0_
            have BK132 := n1_
            have HB := n2_
            clear n0_ n1_ n2_
            have p144 : 0 ≤ (x7_1 : Int) := lE (by first | (with_reducible assumption) | assumption)
            have q144 : x7_1 < (l0.length : Int) := lE (by first | (with_reducible assumption) | assumption)
            obtain ⟨ad144, e144, hx144_0, hx144_1, hx144_2, hx144_3, hx144_4⟩ := at_T27 HR0.out x7_1 p144 q144
            have hw144_4 := hx144_4
            have hw144_3 := hx144_3
            have hw144_2 := hx144_2
            have hw144_1 := hx144_1
            have hw144_0 := hx144_0
            cases e144
            replace hx144_0 := (HB.out.cell (lD w _ hx144_0)).trans hx144_0
            replace hx144_1 := (HB.out.cell (lD w _ hx144_1)).trans hx144_1
            replace hx144_2 := (HB.out.cell (lD w _ hx144_2)).trans hx144_2
            replace hx144_3 := (HB.out.cell (lD w _ hx144_3)).trans hx144_3
            replace hx144_4 := (HB.out.cell (lD w _ hx144_4)).trans hx144_4
            replace p144 := eq_true p144
            replace q144 := eq_true q144
            refine start_ (n := 7) (S := fun w' => w'.cell? ⟨gb132, 0, none⟩ = some (.int .i64 a1_0) ∧ w'.cell? ⟨gb132, 1, none⟩ = some (.int .i64 a1_1) ∧ w'.cell? ⟨gb132, 2, none⟩ = some (.int .i64 a1_2) ∧ w'.cell? ⟨gb132, 3, none⟩ = some (.int .i64 a1_3) ∧ w'.cell? ⟨gb132, 4, none⟩ = some (.int .i64 a1_4) ∧ w'.cell? (ad144.add ((x7_1).toNat * 5)) = some (.int .i64 ((rd_T27 l0 x7_1).f0)) ∧ w'.cell? ⟨(ad144.add ((x7_1).toNat * 5)).block, (ad144.add ((x7_1).toNat * 5)).off + 1, none⟩ = some (.int .i64 ((rd_T27 l0 x7_1).f1)) ∧ w'.cell? ⟨(ad144.add ((x7_1).toNat * 5)).block, (ad144.add ((x7_1).toNat * 5)).off + 2, none⟩ = some (.int .i64 ((rd_T27 l0 x7_1).f2)) ∧ w'.cell? ⟨(ad144.add ((x7_1).toNat * 5)).block, (ad144.add ((x7_1).toNat * 5)).off + 3, none⟩ = some (.int .i64 ((rd_T27 l0 x7_1).f3)) ∧ w'.cell? ⟨(ad144.add ((x7_1).toNat * 5)).block, (ad144.add ((x7_1).toNat * 5)).off + 4, none⟩ = some (.int .i64 ((rd_T27 l0 x7_1).f4))) (ds := []) #[false, false, false, false, false, false, false] (by kernel_rfl) rfl rfl ⟨(aC BK132.out 0).trans rfl, (aC BK132.out 1).trans rfl, (aC BK132.out 2).trans rfl, (aC BK132.out 3).trans rfl, (aC BK132.out 4).trans rfl, ((HB.out.cell (lD w _ hw144_0)).trans hw144_0), ((HB.out.cell (lD w _ hw144_1)).trans hw144_1), ((HB.out.cell (lD w _ hw144_2)).trans hw144_2), ((HB.out.cell (lD w _ hw144_3)).trans hw144_3), ((HB.out.cell (lD w _ hw144_4)).trans hw144_4)⟩ (fun hHeld => ?_)
            generalize w26.drew = w27 at HO143 BK132 HB hx144_0 hx144_1 hx144_2 hx144_3 hx144_4 hHeld ⊢
            refine aU (i := 0) (N := some 30) (v := ?_) (a' := ?_) #[true, false, false, false, false, false, false] rfl rfl (by kernel_rfl) (fun _ _ _ h => h) (Or.inl ⟨by rfl, ?_⟩) ?_ ?_
            rotate_left
            ·intro w'
             go_simp
             with_reducible rfl
            rotate_left
            ·simp only [Act.put, lA, lB, lC, aQ, aT]
             rfl
            refine aU (i := 1) (N := some 31) (v := ?_) (a' := ?_) #[true, true, false, false, false, false, false] rfl rfl (by kernel_rfl) (fun _ _ _ h => h) (Or.inl ⟨by rfl, ?_⟩) ?_ ?_
            rotate_left
            ·intro w'
             go_simp
             with_reducible rfl
            rotate_left
            ·simp only [Act.put, lA, lB, lC, aQ, aT]
             rfl
            refine aU (i := 2) (N := some 32) (v := ?_) (a' := ?_) #[true, true, true, false, false, false, false] rfl rfl (by kernel_rfl) (fun _ _ _ h => h) (Or.inl ⟨by rfl, ?_⟩) ?_ ?_
            rotate_left
            ·intro w'
             go_simp
             with_reducible rfl
            rotate_left
            ·simp only [Act.put, lA, lB, lC, aQ, aT]
             rfl
            refine take_ (i := 3) (N := some 33) (v := ?_) (a' := ?_) #[true, true, true, true, false, false, false] rfl rfl (by kernel_rfl) (fun _ _ _ h => h) (Or.inl ⟨by rfl, ?_⟩) hHeld ?_ ?_
            rotate_left
            ·rintro w' ⟨s0, s1, s2, s3, s4, s5, s6, s7, s8, s9⟩
             go_simp
             with_reducible rfl
            rotate_left
            ·simp only [Act.put, lA, lB, lC, aQ, aT]
             rfl
            refine take_ (i := 4) (N := some 34) (v := ?_) (a' := ?_) #[true, true, true, true, true, false, false] rfl rfl (by kernel_rfl) (fun _ _ _ h => h) (Or.inl ⟨by rfl, ?_⟩) hHeld ?_ ?_
            rotate_left
            ·rintro w' ⟨s0, s1, s2, s3, s4, s5, s6, s7, s8, s9⟩
             go_simp
             with_reducible rfl
            rotate_left
            ·simp only [Act.put, lA, lB, lC, aQ, aT]
             rfl
            refine one_ (i := 5) (N := some 35) #[true, true, true, true, true, true, false] rfl rfl (by kernel_rfl) (by decide) (fun K hK => ?_)
            refine goes_ Try.func80 (by kernel_rfl) rfl #[.agg #[.int .i64 ((rd_T27 l0 x7_1).f0), .int .i64 ((rd_T27 l0 x7_1).f1), .int .i64 ((rd_T27 l0 x7_1).f2), .int .i64 ((rd_T27 l0 x7_1).f3), .int .i64 ((rd_T27 l0 x7_1).f4)], .agg #[.int .i64 a1_0, .int .i64 a1_1, .int .i64 a1_2, .int .i64 a1_3, .int .i64 a1_4]] (by rfl) rfl rfl (by (try simp only [List.map_toArray, List.map_cons, List.map_nil]); first | done | rfl | (simp only [List.length_drop, List.length_take]; rfl)) ?_
            with_reducible refine (spec_SameSpot.calls ((rd_T27 l0 x7_1).f0) ((rd_T27 l0 x7_1).f1) ((rd_T27 l0 x7_1).f2) ((rd_T27 l0 x7_1).f3) ((rd_T27 l0 x7_1).f4) a1_0 a1_1 a1_2 a1_3 a1_4 false _ A18.out).mono ?_
            rintro e w28 ⟨rfl, hb⟩
            refine ⟨_, rfl, ?_⟩
            have n0_ := aA.mk (Kd.bB (by (with_reducible repeat (first | apply Kd.bC | apply Kd.bD | apply Kd.aY)); exact HO143.out) hb)
            have n1_ := aA.mk (bE (g := gb132) (o := .cells #[.int .i64 a1_0, .int .i64 a1_1, .int .i64 a1_2, .int .i64 a1_3, .int .i64 a1_4] 27 (0, 0)) (by (with_reducible repeat (first | refine aJ ?_ _ | refine aM ?_ | refine aK ?_ _)); exact BK132.out) hb)
            have n2_ := aA.mk (aX (by repeat (first | (with_reducible first | exact HB.out | apply aH | apply aE | apply aG | refine aN ?_ GE132.out) | exact HB.out)) hb)
            clear HO143
            clear BK132
            clear HB
            have HO143 := n0_
            have BK132 := n1_
            have HB := n2_
            clear n0_ n1_ n2_
            (try clear hb)
            (try clear hb2)
            (try clear hk)
            (try clear hi)
            refine hK.out _ _ ⟨(aC BK132.out 0).trans rfl, (aC BK132.out 1).trans rfl, (aC BK132.out 2).trans rfl, (aC BK132.out 3).trans rfl, (aC BK132.out 4).trans rfl, ((HB.out.cell (lD w _ hw144_0)).trans hw144_0), ((HB.out.cell (lD w _ hw144_1)).trans hw144_1), ((HB.out.cell (lD w _ hw144_2)).trans hw144_2), ((HB.out.cell (lD w _ hw144_3)).trans hw144_3), ((HB.out.cell (lD w _ hw144_4)).trans hw144_4)⟩ (fun hHeld => ?_)
            clear hK K
            refine norm_ (a' := ?_) ?_ ?_
            rotate_left
            ·show Act.put _ (some 35) _ = _
             simp only [Act.put, lA, lB, lC, aQ, aT]
             rfl
            refine aU (i := 6) (N := some 36) (v := ?_) (a' := ?_) #[true, true, true, true, true, true, true] rfl rfl (by kernel_rfl) (fun _ _ _ h => h) (Or.inl ⟨by rfl, ?_⟩) ?_ ?_
            rotate_left
            ·intro w'
             go_simp
             with_reducible rfl
            rotate_left
            ·simp only [Act.put, lA, lB, lC, aQ, aT]
             rfl
            refine done_ (by kernel_rfl) ?_
            have p146 : 0 ≤ (x7_1 : Int) := lE (by first | (with_reducible assumption) | assumption)
            have q146 : x7_1 < (l0.length : Int) := lE (by first | (with_reducible assumption) | assumption)
            obtain ⟨ad146, e146, hx146_0, hx146_1, hx146_2, hx146_3, hx146_4⟩ := at_T27 HR0.out x7_1 p146 q146
            obtain rfl : ad144 = ad146 := (by injection e146)
            replace hx146_0 := (HB.out.cell (lD w _ hx146_0)).trans hx146_0
            replace hx146_1 := (HB.out.cell (lD w _ hx146_1)).trans hx146_1
            replace hx146_2 := (HB.out.cell (lD w _ hx146_2)).trans hx146_2
            replace hx146_3 := (HB.out.cell (lD w _ hx146_3)).trans hx146_3
            replace hx146_4 := (HB.out.cell (lD w _ hx146_4)).trans hx146_4
            replace p146 := eq_true p146
            replace q146 := eq_true q146
            try go_wp2_with (first | ((with_reducible refine gate_builtin (b := .append) (xs := #[.tmp 37, .tmp 42]) rfl ?_); at_builtin; refine Kd.R_append k27 (w0 := w) w.heap.size rfl (.tmp 37) (.tmp 42) 58 27 (.agg #[(.int .i64 0), (.int .i64 0), (.int .i64 0), (.int .i64 0), (.int .i64 0)]) 40 rfl Try.underlying58 info27 rfl (by decide) (by omega) v142 y141 (⟨(rd_T27 l0 x7_1).f0, (rd_T27 l0 x7_1).f1, (rd_T27 l0 x7_1).f2, (rd_T27 l0 x7_1).f3, (rd_T27 l0 x7_1).f4⟩ : S27) [.int .i64 ((rd_T27 l0 x7_1).f0), .int .i64 ((rd_T27 l0 x7_1).f1), .int .i64 ((rd_T27 l0 x7_1).f2), .int .i64 ((rd_T27 l0 x7_1).f3), .int .i64 ((rd_T27 l0 x7_1).f4)] (fun k_ => k_ ≠ gb132) (fun _ => False) rfl rfl ?aP (fun _ hk => hk.elim) ?aF ?aO ?aB ?aS ?aL ?_; (case aP => exact k27_mkM _ _ _ (⟨(rd_T27 l0 x7_1).f0, (rd_T27 l0 x7_1).f1, (rd_T27 l0 x7_1).f2, (rd_T27 l0 x7_1).f3, (rd_T27 l0 x7_1).f4⟩ : S27)); (case aB => exact (by repeat (first | (with_reducible first | exact HB.out | apply aH | apply aE | apply aG | refine aN ?_ GE132.out) | exact HB.out))); (case aF => exact (fun k_ hk => Kd.freshB (g := gb132) (o := .cells #[.int .i64 a1_0, .int .i64 a1_1, .int .i64 a1_2, .int .i64 a1_3, .int .i64 a1_4] 27 (0, 0)) (by (with_reducible repeat (first | refine aJ ?_ _ | refine aM ?_ | refine aK ?_ _)); exact BK132.out) k_ hk)); (case aO => exact (by (with_reducible repeat (first | apply Kd.bC | apply Kd.bD | apply Kd.aY)); exact HO143.out)); (case aS => exact (aW (by repeat (first | (with_reducible first | exact HB.out | apply aH | apply aE | apply aG | refine aN ?_ GE132.out) | exact HB.out)))); (case aL => have := LMc24.out; omega); intro v148 w29 ho hb hg hat; rw [← Ny147.out] at ho; have n0_ := aA.mk (blk_grown (g := gb132) (o := .cells #[.int .i64 a1_0, .int .i64 a1_1, .int .i64 a1_2, .int .i64 a1_3, .int .i64 a1_4] 27 (0, 0)) (by (with_reducible repeat (first | refine aJ ?_ _ | refine aM ?_ | refine aK ?_ _)); exact BK132.out) hg (Kd.R_away HO143.out (fun _ hk => hk))); have n1_ := aA.mk (hb); have n2_ := aA.mk (ho); clear BK132; clear HB; clear HO143; have BK132 := n0_; have HB := n1_; have HO149 := n2_; clear n0_ n1_ n2_; clear ho hb hg hat))
            go_roundg kj6
            case measure => have := HK1.out; have := HJ6.out; omega
            case rel => exact ⟨(y147), (true), (wrap64 (x7_1 + 1)), (by first | rfl | (simp; done) | (simp [*]; done)), (by first | rfl | (simp; done) | (simp [*]; done)), H', ⟨by have := HK1.out; have := HJ6.out; omega⟩, ⟨by (with_reducible repeat (first | apply Kd.bC | apply Kd.bD | apply Kd.aY)); exact HO149.out⟩, ⟨by (with_reducible repeat (first | refine aJ ?_ _ | refine aM ?_ | refine aK ?_ _)); exact BK132.out⟩, ⟨by repeat (first | (with_reducible first | exact HB.out | apply aH | apply aE | apply aG | refine aN ?_ GE132.out) | exact HB.out)⟩⟩
           ·rw [if_neg c24] at H
            exact absurd H (by simp)
         ·rw [if_neg c17] at H
          exact absurd H (by simp)
        ·rw [if_neg c16] at H
         exact absurd H (by simp)
       ·rw [if_neg c15] at H
        exact absurd H (by simp)
      ·replace c14 := Bool.eq_false_iff.mpr c14
       subst c14
       have H1 : (if 0 ≤ x7_1 then (if x7_1 < (l0.length : Int) then ((spec_SameSpot.f ((rd_T27 l0 x7_1).f0) ((rd_T27 l0 x7_1).f1) ((rd_T27 l0 x7_1).f2) ((rd_T27 l0 x7_1).f3) ((rd_T27 l0 x7_1).f4) a1_0 a1_1 a1_2 a1_3 a1_4).bind fun t151 => (if t151 = true then (spec_SetPut.l0 kj6 l0 x5_1 x6_1 (wrap64 (x7_1 + 1)) a1_0 a1_1 a1_2 a1_3 a1_4) else (if x5_1.length < 3518437208883 then (spec_SetPut.l0 kj6 l0 (x5_1 ++ [(⟨(rd_T27 l0 x7_1).f0, (rd_T27 l0 x7_1).f1, (rd_T27 l0 x7_1).f2, (rd_T27 l0 x7_1).f3, (rd_T27 l0 x7_1).f4⟩ : S27)]) x6_1 (wrap64 (x7_1 + 1)) a1_0 a1_1 a1_2 a1_3 a1_4) else (none)))) else (none)) else (none)) = some r := by rw [if_neg (show ¬ (false = true) by decide)] at H; exact H
       clear H
       have H := H1
       clear H1
       by_cases c30 : 0 ≤ x7_1
       ·rw [if_pos c30] at H
        have c30b0 : decide (0 ≤ x7_1) = true := decide_eq_true c30
        clear c30
        by_cases c31 : x7_1 < (l0.length : Int)
        ·rw [if_pos c31] at H
         have c31b0 : decide (x7_1 < (l0.length : Int)) = true := decide_eq_true c31
         clear c31
         replace H := lF H
         obtain ⟨t151, A320, H⟩ := H
         replace H : (if t151 = true then (spec_SetPut.l0 kj6 l0 x5_1 x6_1 (wrap64 (x7_1 + 1)) a1_0 a1_1 a1_2 a1_3 a1_4) else (if x5_1.length < 3518437208883 then (spec_SetPut.l0 kj6 l0 (x5_1 ++ [(⟨(rd_T27 l0 x7_1).f0, (rd_T27 l0 x7_1).f1, (rd_T27 l0 x7_1).f2, (rd_T27 l0 x7_1).f3, (rd_T27 l0 x7_1).f4⟩ : S27)]) x6_1 (wrap64 (x7_1 + 1)) a1_0 a1_1 a1_2 a1_3 a1_4) else (none))) = some r := H
         have A32 := aA.mk A320
         clear A320
         by_cases c33 : t151 = true
         ·subst c33
          have H1 : (spec_SetPut.l0 kj6 l0 x5_1 x6_1 (wrap64 (x7_1 + 1)) a1_0 a1_1 a1_2 a1_3 a1_4) = some r := by rw [if_pos rfl] at H; exact H
          clear H
          have H := H1
          clear H1
          have H' := aA.mk H
          clear H
          try go_wp2
          have n0_ := aA.mk (Kd.aY HO_5.out)
          have n1_ := aA.mk (aM BK132.out)
          have n2_ := aA.mk (aG HB.out)
          clear HO_5
          clear BK132
          clear HB
          have HO_5 := n0_
          have BK132 := n1_
          have HB := n2_
          clear n0_ n1_ n2_
          have p150 : 0 ≤ (x7_1 : Int) := lE (by first | (with_reducible assumption) | assumption)
          have q150 : x7_1 < (l0.length : Int) := lE (by first | (with_reducible assumption) | assumption)
          obtain ⟨ad150, e150, hx150_0, hx150_1, hx150_2, hx150_3, hx150_4⟩ := at_T27 HR0.out x7_1 p150 q150
          have hw150_4 := hx150_4
          have hw150_3 := hx150_3
          have hw150_2 := hx150_2
          have hw150_1 := hx150_1
          have hw150_0 := hx150_0
          cases e150
          replace hx150_0 := (HB.out.cell (lD w _ hx150_0)).trans hx150_0
          replace hx150_1 := (HB.out.cell (lD w _ hx150_1)).trans hx150_1
          replace hx150_2 := (HB.out.cell (lD w _ hx150_2)).trans hx150_2
          replace hx150_3 := (HB.out.cell (lD w _ hx150_3)).trans hx150_3
          replace hx150_4 := (HB.out.cell (lD w _ hx150_4)).trans hx150_4
          replace p150 := eq_true p150
          replace q150 := eq_true q150
          refine start_ (n := 7) (S := fun w' => w'.cell? ⟨gb132, 0, none⟩ = some (.int .i64 a1_0) ∧ w'.cell? ⟨gb132, 1, none⟩ = some (.int .i64 a1_1) ∧ w'.cell? ⟨gb132, 2, none⟩ = some (.int .i64 a1_2) ∧ w'.cell? ⟨gb132, 3, none⟩ = some (.int .i64 a1_3) ∧ w'.cell? ⟨gb132, 4, none⟩ = some (.int .i64 a1_4) ∧ w'.cell? (ad150.add ((x7_1).toNat * 5)) = some (.int .i64 ((rd_T27 l0 x7_1).f0)) ∧ w'.cell? ⟨(ad150.add ((x7_1).toNat * 5)).block, (ad150.add ((x7_1).toNat * 5)).off + 1, none⟩ = some (.int .i64 ((rd_T27 l0 x7_1).f1)) ∧ w'.cell? ⟨(ad150.add ((x7_1).toNat * 5)).block, (ad150.add ((x7_1).toNat * 5)).off + 2, none⟩ = some (.int .i64 ((rd_T27 l0 x7_1).f2)) ∧ w'.cell? ⟨(ad150.add ((x7_1).toNat * 5)).block, (ad150.add ((x7_1).toNat * 5)).off + 3, none⟩ = some (.int .i64 ((rd_T27 l0 x7_1).f3)) ∧ w'.cell? ⟨(ad150.add ((x7_1).toNat * 5)).block, (ad150.add ((x7_1).toNat * 5)).off + 4, none⟩ = some (.int .i64 ((rd_T27 l0 x7_1).f4))) (ds := []) #[false, false, false, false, false, false, false] (by kernel_rfl) rfl rfl ⟨(aC BK132.out 0).trans rfl, (aC BK132.out 1).trans rfl, (aC BK132.out 2).trans rfl, (aC BK132.out 3).trans rfl, (aC BK132.out 4).trans rfl, ((HB.out.cell (lD w _ hw150_0)).trans hw150_0), ((HB.out.cell (lD w _ hw150_1)).trans hw150_1), ((HB.out.cell (lD w _ hw150_2)).trans hw150_2), ((HB.out.cell (lD w _ hw150_3)).trans hw150_3), ((HB.out.cell (lD w _ hw150_4)).trans hw150_4)⟩ (fun hHeld => ?_)
          generalize wc.drew = w34 at HO_5 BK132 HB hx150_0 hx150_1 hx150_2 hx150_3 hx150_4 hHeld ⊢
          refine aU (i := 0) (N := some 30) (v := ?_) (a' := ?_) #[true, false, false, false, false, false, false] rfl rfl (by kernel_rfl) (fun _ _ _ h => h) (Or.inl ⟨by rfl, ?_⟩) ?_ ?_
          rotate_left
          ·intro w'
           go_simp
           with_reducible rfl
          rotate_left
          ·simp only [Act.put, lA, lB, lC, aQ, aT]
           rfl
          refine aU (i := 1) (N := some 31) (v := ?_) (a' := ?_) #[true, true, false, false, false, false, false] rfl rfl (by kernel_rfl) (fun _ _ _ h => h) (Or.inl ⟨by rfl, ?_⟩) ?_ ?_
          rotate_left
          ·intro w'
           go_simp
           with_reducible rfl
          rotate_left
          ·simp only [Act.put, lA, lB, lC, aQ, aT]
           rfl
          refine aU (i := 2) (N := some 32) (v := ?_) (a' := ?_) #[true, true, true, false, false, false, false] rfl rfl (by kernel_rfl) (fun _ _ _ h => h) (Or.inl ⟨by rfl, ?_⟩) ?_ ?_
          rotate_left
          ·intro w'
           go_simp
           with_reducible rfl
          rotate_left
          ·simp only [Act.put, lA, lB, lC, aQ, aT]
           rfl
          refine take_ (i := 3) (N := some 33) (v := ?_) (a' := ?_) #[true, true, true, true, false, false, false] rfl rfl (by kernel_rfl) (fun _ _ _ h => h) (Or.inl ⟨by rfl, ?_⟩) hHeld ?_ ?_
          rotate_left
          ·rintro w' ⟨s0, s1, s2, s3, s4, s5, s6, s7, s8, s9⟩
           go_simp
           with_reducible rfl
          rotate_left
          ·simp only [Act.put, lA, lB, lC, aQ, aT]
           rfl
          refine take_ (i := 4) (N := some 34) (v := ?_) (a' := ?_) #[true, true, true, true, true, false, false] rfl rfl (by kernel_rfl) (fun _ _ _ h => h) (Or.inl ⟨by rfl, ?_⟩) hHeld ?_ ?_
          rotate_left
          ·rintro w' ⟨s0, s1, s2, s3, s4, s5, s6, s7, s8, s9⟩
           go_simp
           with_reducible rfl
          rotate_left
          ·simp only [Act.put, lA, lB, lC, aQ, aT]
           rfl
          refine one_ (i := 5) (N := some 35) #[true, true, true, true, true, true, false] rfl rfl (by kernel_rfl) (by decide) (fun K hK => ?_)
          refine goes_ Try.func80 (by kernel_rfl) rfl #[.agg #[.int .i64 ((rd_T27 l0 x7_1).f0), .int .i64 ((rd_T27 l0 x7_1).f1), .int .i64 ((rd_T27 l0 x7_1).f2), .int .i64 ((rd_T27 l0 x7_1).f3), .int .i64 ((rd_T27 l0 x7_1).f4)], .agg #[.int .i64 a1_0, .int .i64 a1_1, .int .i64 a1_2, .int .i64 a1_3, .int .i64 a1_4]] (by rfl) rfl rfl (by (try simp only [List.map_toArray, List.map_cons, List.map_nil]); first | done | rfl | (simp only [List.length_drop, List.length_take]; rfl)) ?_
          with_reducible refine (spec_SameSpot.calls ((rd_T27 l0 x7_1).f0) ((rd_T27 l0 x7_1).f1) ((rd_T27 l0 x7_1).f2) ((rd_T27 l0 x7_1).f3) ((rd_T27 l0 x7_1).f4) a1_0 a1_1 a1_2 a1_3 a1_4 true _ A32.out).mono ?_
          rintro e w35 ⟨rfl, hb⟩
          refine ⟨_, rfl, ?_⟩
          have n0_ := aA.mk (Kd.bB (by (with_reducible repeat (first | apply Kd.bC | apply Kd.bD | apply Kd.aY)); exact HO_5.out) hb)
          have n1_ := aA.mk (bE (g := gb132) (o := .cells #[.int .i64 a1_0, .int .i64 a1_1, .int .i64 a1_2, .int .i64 a1_3, .int .i64 a1_4] 27 (0, 0)) (by (with_reducible repeat (first | refine aJ ?_ _ | refine aM ?_ | refine aK ?_ _)); exact BK132.out) hb)
          have n2_ := aA.mk (aX (by repeat (first | (with_reducible first | exact HB.out | apply aH | apply aE | apply aG | refine aN ?_ GE132.out) | exact HB.out)) hb)
          clear HO_5
          clear BK132
          clear HB
          have HO_5 := n0_
          have BK132 := n1_
          have HB := n2_
          clear n0_ n1_ n2_
          (try clear hb)
          (try clear hb2)
          (try clear hk)
          (try clear hi)
          refine hK.out _ _ ⟨(aC BK132.out 0).trans rfl, (aC BK132.out 1).trans rfl, (aC BK132.out 2).trans rfl, (aC BK132.out 3).trans rfl, (aC BK132.out 4).trans rfl, ((HB.out.cell (lD w _ hw150_0)).trans hw150_0), ((HB.out.cell (lD w _ hw150_1)).trans hw150_1), ((HB.out.cell (lD w _ hw150_2)).trans hw150_2), ((HB.out.cell (lD w _ hw150_3)).trans hw150_3), ((HB.out.cell (lD w _ hw150_4)).trans hw150_4)⟩ (fun hHeld => ?_)
          clear hK K
          refine norm_ (a' := ?_) ?_ ?_
          rotate_left
          ·show Act.put _ (some 35) _ = _
           simp only [Act.put, lA, lB, lC, aQ, aT]
           rfl
          refine aU (i := 6) (N := some 36) (v := ?_) (a' := ?_) #[true, true, true, true, true, true, true] rfl rfl (by kernel_rfl) (fun _ _ _ h => h) (Or.inl ⟨by rfl, ?_⟩) ?_ ?_
          rotate_left
          ·intro w'
           go_simp
           with_reducible rfl
          rotate_left
          ·simp only [Act.put, lA, lB, lC, aQ, aT]
           rfl
          refine done_ (by kernel_rfl) ?_
          try go_wp2
          go_roundg kj6
          case measure => have := HK1.out; have := HJ6.out; omega
          case rel => exact ⟨(x5_1), (x6_1), (wrap64 (x7_1 + 1)), (by first | rfl | (simp; done) | (simp [*]; done)), (by first | rfl | (simp; done) | (simp [*]; done)), H', ⟨by have := HK1.out; have := HJ6.out; omega⟩, ⟨by (with_reducible repeat (first | apply Kd.bC | apply Kd.bD | apply Kd.aY)); exact HO_5.out⟩, ⟨by (with_reducible repeat (first | refine aJ ?_ _ | refine aM ?_ | refine aK ?_ _)); exact BK132.out⟩, ⟨by repeat (first | (with_reducible first | exact HB.out | apply aH | apply aE | apply aG | refine aN ?_ GE132.out) | exact HB.out)⟩⟩
         ·replace c33 := Bool.eq_false_iff.mpr c33
          subst c33
          have H1 : (if x5_1.length < 3518437208883 then (spec_SetPut.l0 kj6 l0 (x5_1 ++ [(⟨(rd_T27 l0 x7_1).f0, (rd_T27 l0 x7_1).f1, (rd_T27 l0 x7_1).f2, (rd_T27 l0 x7_1).f3, (rd_T27 l0 x7_1).f4⟩ : S27)]) x6_1 (wrap64 (x7_1 + 1)) a1_0 a1_1 a1_2 a1_3 a1_4) else (none)) = some r := by rw [if_neg (show ¬ (false = true) by decide)] at H; exact H
          clear H
          have H := H1
          clear H1
          by_cases c36 : x5_1.length < 3518437208883
          ·rw [if_pos c36] at H
           have LMc36 := aA.mk c36
           clear c36
           obtain ⟨y153, hy153⟩ : ∃ y_ : List (S27), y_ = (x5_1 ++ [(⟨(rd_T27 l0 x7_1).f0, (rd_T27 l0 x7_1).f1, (rd_T27 l0 x7_1).f2, (rd_T27 l0 x7_1).f3, (rd_T27 l0 x7_1).f4⟩ : S27)]) := ⟨_, rfl⟩
           replace H : (spec_SetPut.l0 kj6 l0 y153 x6_1 (wrap64 (x7_1 + 1)) a1_0 a1_1 a1_2 a1_3 a1_4) = some r := by first | (rw [hy153]; with_reducible exact H) | (have H2_ := (Option.bind_some _ _).symm.trans H; rw [hy153]; with_reducible exact H2_) | (have H2_ := (Option.bind_some _ _).symm.trans H; with_reducible exact H2_) | with_reducible exact H | (rw [hy153]; exact H) | exact H
           have Ny153 := aA.mk hy153
           clear hy153
           have H' := aA.mk H
           clear H
           try go_wp2
           have n0_ := aA.mk (Kd.aY HO_5.out)
           have n1_ := aA.mk (aM BK132.out)
           have n2_ := aA.mk (aG HB.out)
           clear HO_5
           clear BK132
           clear HB
           have HO_5 := n0_
           have BK132 := n1_
           have HB := n2_
           clear n0_ n1_ n2_
           have p150 : 0 ≤ (x7_1 : Int) := lE (by first | (with_reducible assumption) | assumption)
           have q150 : x7_1 < (l0.length : Int) := lE (by first | (with_reducible assumption) | assumption)
           obtain ⟨ad150, e150, hx150_0, hx150_1, hx150_2, hx150_3, hx150_4⟩ := at_T27 HR0.out x7_1 p150 q150
           have hw150_4 := hx150_4
           have hw150_3 := hx150_3
           have hw150_2 := hx150_2
           have hw150_1 := hx150_1
           have hw150_0 := hx150_0
           cases e150
           replace hx150_0 := (HB.out.cell (lD w _ hx150_0)).trans hx150_0
           replace hx150_1 := (HB.out.cell (lD w _ hx150_1)).trans hx150_1
           replace hx150_2 := (HB.out.cell (lD w _ hx150_2)).trans hx150_2
           replace hx150_3 := (HB.out.cell (lD w _ hx150_3)).trans hx150_3
           replace hx150_4 := (HB.out.cell (lD w _ hx150_4)).trans hx150_4
           replace p150 := eq_true p150
           replace q150 := eq_true q150
           refine start_ (n := 7) (S := fun w' => w'.cell? ⟨gb132, 0, none⟩ = some (.int .i64 a1_0) ∧ w'.cell? ⟨gb132, 1, none⟩ = some (.int .i64 a1_1) ∧ w'.cell? ⟨gb132, 2, none⟩ = some (.int .i64 a1_2) ∧ w'.cell? ⟨gb132, 3, none⟩ = some (.int .i64 a1_3) ∧ w'.cell? ⟨gb132, 4, none⟩ = some (.int .i64 a1_4) ∧ w'.cell? (ad150.add ((x7_1).toNat * 5)) = some (.int .i64 ((rd_T27 l0 x7_1).f0)) ∧ w'.cell? ⟨(ad150.add ((x7_1).toNat * 5)).block, (ad150.add ((x7_1).toNat * 5)).off + 1, none⟩ = some (.int .i64 ((rd_T27 l0 x7_1).f1)) ∧ w'.cell? ⟨(ad150.add ((x7_1).toNat * 5)).block, (ad150.add ((x7_1).toNat * 5)).off + 2, none⟩ = some (.int .i64 ((rd_T27 l0 x7_1).f2)) ∧ w'.cell? ⟨(ad150.add ((x7_1).toNat * 5)).block, (ad150.add ((x7_1).toNat * 5)).off + 3, none⟩ = some (.int .i64 ((rd_T27 l0 x7_1).f3)) ∧ w'.cell? ⟨(ad150.add ((x7_1).toNat * 5)).block, (ad150.add ((x7_1).toNat * 5)).off + 4, none⟩ = some (.int .i64 ((rd_T27 l0 x7_1).f4))) (ds := []) #[false, false, false, false, false, false, false] (by kernel_rfl) rfl rfl ⟨(aC BK132.out 0).trans rfl, (aC BK132.out 1).trans rfl, (aC BK132.out 2).trans rfl, (aC BK132.out 3).trans rfl, (aC BK132.out 4).trans rfl, ((HB.out.cell (lD w _ hw150_0)).trans hw150_0), ((HB.out.cell (lD w _ hw150_1)).trans hw150_1), ((HB.out.cell (lD w _ hw150_2)).trans hw150_2), ((HB.out.cell (lD w _ hw150_3)).trans hw150_3), ((HB.out.cell (lD w _ hw150_4)).trans hw150_4)⟩ (fun hHeld => ?_)
           generalize wc.drew = w37 at HO_5 BK132 HB hx150_0 hx150_1 hx150_2 hx150_3 hx150_4 hHeld ⊢
           refine aU (i := 0) (N := some 30) (v := ?_) (a' := ?_) #[true, false, false, false, false, false, false] rfl rfl (by kernel_rfl) (fun _ _ _ h => h) (Or.inl ⟨by rfl, ?_⟩) ?_ ?_
           rotate_left
           ·intro w'
            go_simp
            with_reducible rfl
           rotate_left
           ·simp only [Act.put, lA, lB, lC, aQ, aT]
            rfl
           refine aU (i := 1) (N := some 31) (v := ?_) (a' := ?_) #[true, true, false, false, false, false, false] rfl rfl (by kernel_rfl) (fun _ _ _ h => h) (Or.inl ⟨by rfl, ?_⟩) ?_ ?_
           rotate_left
           ·intro w'
            go_simp
            with_reducible rfl
           rotate_left
           ·simp only [Act.put, lA, lB, lC, aQ, aT]
            rfl
           refine aU (i := 2) (N := some 32) (v := ?_) (a' := ?_) #[true, true, true, false, false, false, false] rfl rfl (by kernel_rfl) (fun _ _ _ h => h) (Or.inl ⟨by rfl, ?_⟩) ?_ ?_
           rotate_left
           ·intro w'
            go_simp
            with_reducible rfl
           rotate_left
           ·simp only [Act.put, lA, lB, lC, aQ, aT]
            rfl
           refine take_ (i := 3) (N := some 33) (v := ?_) (a' := ?_) #[true, true, true, true, false, false, false] rfl rfl (by kernel_rfl) (fun _ _ _ h => h) (Or.inl ⟨by rfl, ?_⟩) hHeld ?_ ?_
           rotate_left
           ·rintro w' ⟨s0, s1, s2, s3, s4, s5, s6, s7, s8, s9⟩
            go_simp
            with_reducible rfl
           rotate_left
           ·simp only [Act.put, lA, lB, lC, aQ, aT]
            rfl
           refine take_ (i := 4) (N := some 34) (v := ?_) (a' := ?_) #[true, true, true, true, true, false, false] rfl rfl (by kernel_rfl) (fun _ _ _ h => h) (Or.inl ⟨by rfl, ?_⟩) hHeld ?_ ?_
           rotate_left
           ·rintro w' ⟨s0, s1, s2, s3, s4, s5, s6, s7, s8, s9⟩
            go_simp
            with_reducible rfl
           rotate_left
           ·simp only [Act.put, lA, lB, lC, aQ, aT]
            rfl
           refine one_ (i := 5) (N := some 35) #[true, true, true, true, true, true, false] rfl rfl (by kernel_rfl) (by decide) (fun K hK => ?_)
           refine goes_ Try.func80 (by kernel_rfl) rfl #[.agg #[.int .i64 ((rd_T27 l0 x7_1).f0), .int .i64 ((rd_T27 l0 x7_1).f1), .int .i64 ((rd_T27 l0 x7_1).f2), .int .i64 ((rd_T27 l0 x7_1).f3), .int .i64 ((rd_T27 l0 x7_1).f4)], .agg #[.int .i64 a1_0, .int .i64 a1_1, .int .i64 a1_2, .int .i64 a1_3, .int .i64 a1_4]] (by rfl) rfl rfl (by (try simp only [List.map_toArray, List.map_cons, List.map_nil]); first | done | rfl | (simp only [List.length_drop, List.length_take]; rfl)) ?_
           with_reducible refine (spec_SameSpot.calls ((rd_T27 l0 x7_1).f0) ((rd_T27 l0 x7_1).f1) ((rd_T27 l0 x7_1).f2) ((rd_T27 l0 x7_1).f3) ((rd_T27 l0 x7_1).f4) a1_0 a1_1 a1_2 a1_3 a1_4 false _ A32.out).mono ?_
           rintro e w38 ⟨rfl, hb⟩
           refine ⟨_, rfl, ?_⟩
           have n0_ := aA.mk (Kd.bB (by (with_reducible repeat (first | apply Kd.bC | apply Kd.bD | apply Kd.aY)); exact HO_5.out) hb)
           have n1_ := aA.mk (bE (g := gb132) (o := .cells #[.int .i64 a1_0, .int .i64 a1_1, .int .i64 a1_2, .int .i64 a1_3, .int .i64 a1_4] 27 (0, 0)) (by (with_reducible repeat (first | refine aJ ?_ _ | refine aM ?_ | refine aK ?_ _)); exact BK132.out) hb)
           have n2_ := aA.mk (aX (by repeat (first | (with_reducible first | exact HB.out | apply aH | apply aE | apply aG | refine aN ?_ GE132.out) | exact HB.out)) hb)
           clear HO_5
           clear BK132
           clear HB
           have HO_5 := n0_
           have BK132 := n1_
           have HB := n2_
           clear n0_ n1_ n2_
           (try clear hb)
           (try clear hb2)
           (try clear hk)
           (try clear hi)
           refine hK.out _ _ ⟨(aC BK132.out 0).trans rfl, (aC BK132.out 1).trans rfl, (aC BK132.out 2).trans rfl, (aC BK132.out 3).trans rfl, (aC BK132.out 4).trans rfl, ((HB.out.cell (lD w _ hw150_0)).trans hw150_0), ((HB.out.cell (lD w _ hw150_1)).trans hw150_1), ((HB.out.cell (lD w _ hw150_2)).trans hw150_2), ((HB.out.cell (lD w _ hw150_3)).trans hw150_3), ((HB.out.cell (lD w _ hw150_4)).trans hw150_4)⟩ (fun hHeld => ?_)
           clear hK K
           refine norm_ (a' := ?_) ?_ ?_
           rotate_left
           ·show Act.put _ (some 35) _ = _
            simp only [Act.put, lA, lB, lC, aQ, aT]
            rfl
           refine aU (i := 6) (N := some 36) (v := ?_) (a' := ?_) #[true, true, true, true, true, true, true] rfl rfl (by kernel_rfl) (fun _ _ _ h => h) (Or.inl ⟨by rfl, ?_⟩) ?_ ?_
           rotate_left
           ·intro w'
            go_simp
            with_reducible rfl
           rotate_left
           ·simp only [Act.put, lA, lB, lC, aQ, aT]
            rfl
           refine done_ (by kernel_rfl) ?_
           have p152 : 0 ≤ (x7_1 : Int) := lE (by first | (with_reducible assumption) | assumption)
           have q152 : x7_1 < (l0.length : Int) := lE (by first | (with_reducible assumption) | assumption)
           obtain ⟨ad152, e152, hx152_0, hx152_1, hx152_2, hx152_3, hx152_4⟩ := at_T27 HR0.out x7_1 p152 q152
           obtain rfl : ad150 = ad152 := (by injection e152)
           replace hx152_0 := (HB.out.cell (lD w _ hx152_0)).trans hx152_0
           replace hx152_1 := (HB.out.cell (lD w _ hx152_1)).trans hx152_1
           replace hx152_2 := (HB.out.cell (lD w _ hx152_2)).trans hx152_2
           replace hx152_3 := (HB.out.cell (lD w _ hx152_3)).trans hx152_3
           replace hx152_4 := (HB.out.cell (lD w _ hx152_4)).trans hx152_4
           replace p152 := eq_true p152
           replace q152 := eq_true q152
           try go_wp2_with (first | ((with_reducible refine gate_builtin (b := .append) (xs := #[.tmp 37, .tmp 42]) rfl ?_); at_builtin; refine Kd.R_append k27 (w0 := w) w.heap.size rfl (.tmp 37) (.tmp 42) 58 27 (.agg #[(.int .i64 0), (.int .i64 0), (.int .i64 0), (.int .i64 0), (.int .i64 0)]) 40 rfl Try.underlying58 info27 rfl (by decide) (by omega) u5 x5_1 (⟨(rd_T27 l0 x7_1).f0, (rd_T27 l0 x7_1).f1, (rd_T27 l0 x7_1).f2, (rd_T27 l0 x7_1).f3, (rd_T27 l0 x7_1).f4⟩ : S27) [.int .i64 ((rd_T27 l0 x7_1).f0), .int .i64 ((rd_T27 l0 x7_1).f1), .int .i64 ((rd_T27 l0 x7_1).f2), .int .i64 ((rd_T27 l0 x7_1).f3), .int .i64 ((rd_T27 l0 x7_1).f4)] (fun k_ => k_ ≠ gb132) (fun _ => False) rfl rfl ?aP (fun _ hk => hk.elim) ?aF ?aO ?aB ?aS ?aL ?_; (case aP => exact k27_mkM _ _ _ (⟨(rd_T27 l0 x7_1).f0, (rd_T27 l0 x7_1).f1, (rd_T27 l0 x7_1).f2, (rd_T27 l0 x7_1).f3, (rd_T27 l0 x7_1).f4⟩ : S27)); (case aB => exact (by repeat (first | (with_reducible first | exact HB.out | apply aH | apply aE | apply aG | refine aN ?_ GE132.out) | exact HB.out))); (case aF => exact (fun k_ hk => Kd.freshB (g := gb132) (o := .cells #[.int .i64 a1_0, .int .i64 a1_1, .int .i64 a1_2, .int .i64 a1_3, .int .i64 a1_4] 27 (0, 0)) (by (with_reducible repeat (first | refine aJ ?_ _ | refine aM ?_ | refine aK ?_ _)); exact BK132.out) k_ hk)); (case aO => exact (by (with_reducible repeat (first | apply Kd.bC | apply Kd.bD | apply Kd.aY)); exact HO_5.out)); (case aS => exact (aW (by repeat (first | (with_reducible first | exact HB.out | apply aH | apply aE | apply aG | refine aN ?_ GE132.out) | exact HB.out)))); (case aL => have := LMc36.out; omega); intro v154 w39 ho hb hg hat; rw [← Ny153.out] at ho; have n0_ := aA.mk (blk_grown (g := gb132) (o := .cells #[.int .i64 a1_0, .int .i64 a1_1, .int .i64 a1_2, .int .i64 a1_3, .int .i64 a1_4] 27 (0, 0)) (by (with_reducible repeat (first | refine aJ ?_ _ | refine aM ?_ | refine aK ?_ _)); exact BK132.out) hg (Kd.R_away HO_5.out (fun _ hk => hk))); have n1_ := aA.mk (hb); have n2_ := aA.mk (ho); clear BK132; clear HB; clear HO_5; have BK132 := n0_; have HB := n1_; have HO155 := n2_; clear n0_ n1_ n2_; clear ho hb hg hat))
           go_roundg kj6
           case measure => have := HK1.out; have := HJ6.out; omega
           case rel => exact ⟨(y153), (x6_1), (wrap64 (x7_1 + 1)), (by first | rfl | (simp; done) | (simp [*]; done)), (by first | rfl | (simp; done) | (simp [*]; done)), H', ⟨by have := HK1.out; have := HJ6.out; omega⟩, ⟨by (with_reducible repeat (first | apply Kd.bC | apply Kd.bD | apply Kd.aY)); exact HO155.out⟩, ⟨by (with_reducible repeat (first | refine aJ ?_ _ | refine aM ?_ | refine aK ?_ _)); exact BK132.out⟩, ⟨by repeat (first | (with_reducible first | exact HB.out | apply aH | apply aE | apply aG | refine aN ?_ GE132.out) | exact HB.out)⟩⟩
          ·rw [if_neg c36] at H
           exact absurd H (by simp)
        ·rw [if_neg c31] at H
         exact absurd H (by simp)
       ·rw [if_neg c30] at H
        exact absurd H (by simp)
   ·rw [if_neg c6] at H
    have c6b0 : decide (x7_1 < (l0.length : Int)) = false := decide_eq_false c6
    clear c6
    by_cases c40 : x6_1 = true
    ·subst c40
     have H1 : (some x5_1) = some r := by rw [if_pos rfl] at H; exact H
     clear H
     have H := H1
     clear H1
     obtain rfl := Option.some.inj H
     go_wp2
     go_ret
     exact ⟨_, by first | rfl | (simp [errW_none, errW_some] <;> rfl) | (simp [*, errW_none, errW_some] <;> rfl), by (with_reducible repeat (first | apply Kd.bC | apply Kd.bD | apply Kd.aY)); exact Kd.R_mono HO_5.out (fun _ hk => trivial), by repeat (first | (with_reducible first | exact HB.out | apply aH | apply aE | apply aG | refine aN ?_ GE132.out) | exact HB.out)⟩
    ·replace c40 := Bool.eq_false_iff.mpr c40
     subst c40
     have H1 : (if x5_1.length < 3518437208883 then (some (x5_1 ++ [(⟨a1_0, a1_1, a1_2, a1_3, a1_4⟩ : S27)])) else (none)) = some r := by rw [if_neg (show ¬ (false = true) by decide)] at H; exact H
     clear H
     have H := H1
     clear H1
     by_cases c41 : x5_1.length < 3518437208883
     ·rw [if_pos c41] at H
      have LMc41 := aA.mk c41
      clear c41
      obtain ⟨y136, hy136⟩ : ∃ y_ : List (S27), y_ = (x5_1 ++ [(⟨a1_0, a1_1, a1_2, a1_3, a1_4⟩ : S27)]) := ⟨_, rfl⟩
      replace H : (some y136) = some r := by first | (rw [hy136]; with_reducible exact H) | (have H2_ := (Option.bind_some _ _).symm.trans H; rw [hy136]; with_reducible exact H2_) | (have H2_ := (Option.bind_some _ _).symm.trans H; with_reducible exact H2_) | with_reducible exact H | (rw [hy136]; exact H) | exact H
      have Ny136 := aA.mk hy136
      clear hy136
      obtain rfl := Option.some.inj H
      have hcz42_0 : wr.cell? ⟨gb132, 0, none⟩ = some (.int .i64 a1_0) := (aC BK132.out 0).trans rfl
      have hcz42_1 : wr.cell? ⟨gb132, 1, none⟩ = some (.int .i64 a1_1) := (aC BK132.out 1).trans rfl
      have hcz42_2 : wr.cell? ⟨gb132, 2, none⟩ = some (.int .i64 a1_2) := (aC BK132.out 2).trans rfl
      have hcz42_3 : wr.cell? ⟨gb132, 3, none⟩ = some (.int .i64 a1_3) := (aC BK132.out 3).trans rfl
      have hcz42_4 : wr.cell? ⟨gb132, 4, none⟩ = some (.int .i64 a1_4) := (aC BK132.out 4).trans rfl
      have hfz42_0 := aD BK132.out 0
      have hfz42_1 := aD BK132.out 1
      have hfz42_2 := aD BK132.out 2
      have hfz42_3 := aD BK132.out 3
      have hfz42_4 := aD BK132.out 4
      go_wp2_with (first | ((with_reducible refine gate_builtin (b := .append) (xs := #[.tmp 46, .tmp 48]) rfl ?_); at_builtin; refine Kd.R_append k27 (w0 := w) w.heap.size rfl (.tmp 46) (.tmp 48) 58 27 (.agg #[(.int .i64 0), (.int .i64 0), (.int .i64 0), (.int .i64 0), (.int .i64 0)]) 40 rfl Try.underlying58 info27 rfl (by decide) (by omega) u5 x5_1 (⟨a1_0, a1_1, a1_2, a1_3, a1_4⟩ : S27) [.int .i64 a1_0, .int .i64 a1_1, .int .i64 a1_2, .int .i64 a1_3, .int .i64 a1_4] (fun k_ => k_ ≠ gb132) (fun _ => False) rfl rfl ?aP (fun _ hk => hk.elim) ?aF ?aO ?aB ?aS ?aL ?_; (case aP => exact k27_mkM _ _ _ (⟨a1_0, a1_1, a1_2, a1_3, a1_4⟩ : S27)); (case aB => exact (by repeat (first | (with_reducible first | exact HB.out | apply aH | apply aE | apply aG | refine aN ?_ GE132.out) | exact HB.out))); (case aF => exact (fun k_ hk => Kd.freshB (g := gb132) (o := .cells #[.int .i64 a1_0, .int .i64 a1_1, .int .i64 a1_2, .int .i64 a1_3, .int .i64 a1_4] 27 (0, 0)) (by (with_reducible repeat (first | refine aJ ?_ _ | refine aM ?_ | refine aK ?_ _)); exact BK132.out) k_ hk)); (case aO => exact (by (with_reducible repeat (first | apply Kd.bC | apply Kd.bD | apply Kd.aY)); exact HO_5.out)); (case aS => exact (aW (by repeat (first | (with_reducible first | exact HB.out | apply aH | apply aE | apply aG | refine aN ?_ GE132.out) | exact HB.out)))); (case aL => have := LMc41.out; omega); intro v137 w43 ho hb hg hat; rw [← Ny136.out] at ho; have n0_ := aA.mk (blk_grown (g := gb132) (o := .cells #[.int .i64 a1_0, .int .i64 a1_1, .int .i64 a1_2, .int .i64 a1_3, .int .i64 a1_4] 27 (0, 0)) (by (with_reducible repeat (first | refine aJ ?_ _ | refine aM ?_ | refine aK ?_ _)); exact BK132.out) hg (Kd.R_away HO_5.out (fun _ hk => hk))); have n1_ := aA.mk (hb); have n2_ := aA.mk (ho); clear BK132; clear HB; clear HO_5; have BK132 := n0_; have HB := n1_; have HO138 := n2_; clear n0_ n1_ n2_; clear ho hb hg hat))
      go_ret
      exact ⟨_, by first | rfl | (simp [errW_none, errW_some] <;> rfl) | (simp [*, errW_none, errW_some] <;> rfl), by (with_reducible repeat (first | apply Kd.bC | apply Kd.bD | apply Kd.aY)); exact Kd.R_mono HO138.out (fun _ hk => trivial), by repeat (first | (with_reducible first | exact HB.out | apply aH | apply aE | apply aG | refine aN ?_ GE132.out) | exact HB.out)⟩
     ·rw [if_neg c41] at H
      exact absurd H (by simp)
end Go.Proofs.Ytkaoiaolbhklnaa.PFnSets

namespace Go.Proofs.Ytkaoiaolbhklnaa.PFnSets
open Go.RowKit Go.Proofs.YtkaoiaolbhklnaaW.PrintWords Go.Proofs.YtkaoiaolbhklnaaW.PrintLast Go.Proofs.YtkaoiaolbhklnaaW.PrintMore
attribute [local go_sem] max2_int min2_int max_two min_two max_three min_three max_four min_four   -- for this text's walks alone
set_option linter.unusedVariables false
set_option linter.unusedSimpArgs false
def spec_l1Byte.f (s0_0 : List Int) (s0_1 : Int) (s0_2 : Int) : Option (Int × Int × Int) := if s0_1 < (s0_0.length : Int) then (if 0 ≤ s0_1 then (some (Go.bits .and .i64 (wrap64 ((Go.bits .and .i64 (Go.bits .xor .i64 ((wrap64 ((wrap64 (s0_2 * 6364136223846793005)) + 1442695040888963407)) / 8589934592) ((wrap64 ((wrap64 (s0_2 * 6364136223846793005)) + 1442695040888963407)) / 140737488355328)) 255) + (wrap64 (rd s0_0 s0_1)))) 255, wrap64 (s0_1 + 1), wrap64 ((wrap64 (s0_2 * 6364136223846793005)) + 1442695040888963407))) else (none)) else (some (Go.bits .and .i64 (Go.bits .xor .i64 ((wrap64 ((wrap64 (s0_2 * 6364136223846793005)) + 1442695040888963407)) / 8589934592) ((wrap64 ((wrap64 (s0_2 * 6364136223846793005)) + 1442695040888963407)) / 140737488355328)) 255, s0_1, wrap64 ((wrap64 (s0_2 * 6364136223846793005)) + 1442695040888963407)))
set_option maxHeartbeats 8000000 in
set_option maxRecDepth 100000 in
theorem spec_l1Byte.calls (g : Nat) (s0_0 : List Int) (s0_1 : Int) (s0_2 : Int) (r1 : Int) (r2 : Int) (r3 : Int) (w0 w : World) (hI : IsS98 w0 w g s0_0 s0_1 s0_2) (hB : Below w0.heap.size w0 w) (h : spec_l1Byte.f s0_0 s0_1 s0_2 = some (r1, r2, r3)) :
  Calls Try.prog 86 #[.pointer (some ⟨g, 0, none⟩)] w fun e w' => e = .returned (.int .i64 r1) ∧ IsS98 w0 w' g s0_0 r2 r3 ∧ Below w0.heap.size w0 w' ∧ KeepBut w w' g none := by
 have HI0 := aA.mk hI
 have HK := aA.mk (KeepBut.refl w g none)
 have HL := aA.mk hB.size
 clear hI
 have HW0 := aA.mk hB.size
 have HB := aA.mk hB
 clear hB
 have H : (if s0_1 < (s0_0.length : Int) then (if 0 ≤ s0_1 then (some (Go.bits .and .i64 (wrap64 ((Go.bits .and .i64 (Go.bits .xor .i64 ((wrap64 ((wrap64 (s0_2 * 6364136223846793005)) + 1442695040888963407)) / 8589934592) ((wrap64 ((wrap64 (s0_2 * 6364136223846793005)) + 1442695040888963407)) / 140737488355328)) 255) + (wrap64 (rd s0_0 s0_1)))) 255, wrap64 (s0_1 + 1), wrap64 ((wrap64 (s0_2 * 6364136223846793005)) + 1442695040888963407))) else (none)) else (some (Go.bits .and .i64 (Go.bits .xor .i64 ((wrap64 ((wrap64 (s0_2 * 6364136223846793005)) + 1442695040888963407)) / 8589934592) ((wrap64 ((wrap64 (s0_2 * 6364136223846793005)) + 1442695040888963407)) / 140737488355328)) 255, s0_1, wrap64 ((wrap64 (s0_2 * 6364136223846793005)) + 1442695040888963407)))) = some (r1, r2, r3) := h
 clear h
 by_cases c2 : s0_1 < (s0_0.length : Int)
 ·rw [if_pos c2] at H
  have c2b0 : decide (s0_1 < (s0_0.length : Int)) = true := decide_eq_true c2
  clear c2
  by_cases c3 : 0 ≤ s0_1
  ·rw [if_pos c3] at H
   have c3b0 : decide (0 ≤ s0_1) = true := decide_eq_true c3
   clear c3
   simp only [Option.some.injEq, Prod.mk.injEq] at H
   obtain ⟨rfl, rfl, rfl⟩ := H
   obtain ⟨ASz4_0, cSz4_0, HGz4, hgz4, HSz4_0⟩ := HI0.out
   have hcz4_0 := cellS98_0 HGz4
   have hcz4_1 := cellS98_1 HGz4
   have hcz4_2 := cellS98_2 HGz4
   have hfz4_1 := aD HGz4 1
   have hfz4_2 := aD HGz4 2
   clear HGz4 hgz4
   have p156 : 0 ≤ (s0_1 : Int) := lE (by first | (with_reducible assumption) | assumption)
   have q156 : s0_1 < (s0_0.length : Int) := lE (by first | (with_reducible assumption) | assumption)
   obtain ⟨ad156, e156, hx156_0⟩ := Kd.at_int HSz4_0 s0_1 p156 q156
   cases e156
   have hn156_0 : ad156.block ≠ g := Nat.ne_of_lt (Nat.lt_of_lt_of_le (by have := lD _ _ hx156_0; first | rwa [add_block] at this | exact this) (IsS98.ge HI0.out))
   replace hx156_0 := aV HB.out hx156_0
   replace hx156_0 := (cell_far (p := ⟨g, 2, none⟩) (by first | (rw [add_block]; exact hn156_0) | (show (Addr.add _ _).block ≠ _; rw [add_block]; exact hn156_0) | exact hn156_0) (.int .i64 (wrap64 ((wrap64 (s0_2 * 6364136223846793005)) + 1442695040888963407)))).trans hx156_0
   (try have hy156_0 := fun (n_ : Nat) => (show (((w.drewN n_).setCell ⟨g, 2, none⟩ (.int .i64 (wrap64 ((wrap64 (s0_2 * 6364136223846793005)) + 1442695040888963407))))).cell? _ = some _ from hx156_0))
   clear hn156_0
   replace p156 := eq_true p156
   replace q156 := eq_true q156
   go_enter Try.func86, Try.ntmps86
   go_wp2
   repeat (go_quiet (fail); try go_wp2)
   go_ret
   exact ⟨by first | rfl | (simp [errW_none, errW_some] <;> rfl) | (simp [*, errW_none, errW_some] <;> rfl), by repeat (first | (with_reducible first | exact HI0.out | apply IsS98.alloc | apply IsS98.drewN | apply IsS98.drew | apply IsS98.set_1 | apply IsS98.set_2) | exact HI0.out), by repeat (first | (with_reducible first | exact HB.out | apply aH | apply aE | apply aG | refine aN ?_ (IsS98.ge HI0.out)) | exact HB.out), by repeat (first | (with_reducible first | exact HK.out | apply KeepBut.set_ | apply bF | apply bJ | apply bG) | exact HK.out)⟩
  ·rw [if_neg c3] at H
   exact absurd H (by simp)
 ·rw [if_neg c2] at H
  have c2b0 : decide (s0_1 < (s0_0.length : Int)) = false := decide_eq_false c2
  clear c2
  simp only [Option.some.injEq, Prod.mk.injEq] at H
  obtain ⟨rfl, rfl, rfl⟩ := H
  obtain ⟨ASz5_0, cSz5_0, HGz5, hgz5, HSz5_0⟩ := HI0.out
  have hcz5_0 := cellS98_0 HGz5
  have hcz5_1 := cellS98_1 HGz5
  have hcz5_2 := cellS98_2 HGz5
  have hfz5_1 := aD HGz5 1
  have hfz5_2 := aD HGz5 2
  clear HGz5 hgz5
  go_enter Try.func86, Try.ntmps86
  go_wp2
  repeat (go_quiet (fail); try go_wp2)
  go_ret
  exact ⟨by first | rfl | (simp [errW_none, errW_some] <;> rfl) | (simp [*, errW_none, errW_some] <;> rfl), by repeat (first | (with_reducible first | exact HI0.out | apply IsS98.alloc | apply IsS98.drewN | apply IsS98.drew | apply IsS98.set_1 | apply IsS98.set_2) | exact HI0.out), by repeat (first | (with_reducible first | exact HB.out | apply aH | apply aE | apply aG | refine aN ?_ (IsS98.ge HI0.out)) | exact HB.out), by repeat (first | (with_reducible first | exact HK.out | apply KeepBut.set_ | apply bF | apply bJ | apply bG) | exact HK.out)⟩
def spec_l1Below.f (s0_0 : List Int) (s0_1 : Int) (s0_2 : Int) (a1 : Int) : Option (Int × Int × Int) := if a1 ≤ 0 then (some (0, s0_1, s0_2)) else (if a1 ≤ 256 then ((spec_l1Byte.f s0_0 s0_1 s0_2).bind fun bt157 => (if a1 = 0 then (none) else (some (Int.tmod bt157.1 a1, bt157.2.1, bt157.2.2)))) else ((spec_l1Byte.f s0_0 s0_1 s0_2).bind fun bt160 => ((spec_l1Byte.f s0_0 bt160.2.1 bt160.2.2).bind fun bt163 => ((spec_l1Byte.f s0_0 bt163.2.1 bt163.2.2).bind fun bt166 => (if a1 = 0 then (none) else (some (Int.tmod (wrap64 ((wrap64 ((wrap64 (bt160.1 * 65536)) + (wrap64 (bt163.1 * 256)))) + bt166.1)) a1, bt166.2.1, bt166.2.2)))))))
set_option maxHeartbeats 8000000 in
set_option maxRecDepth 100000 in
theorem spec_l1Below.calls (g : Nat) (s0_0 : List Int) (s0_1 : Int) (s0_2 : Int) (a1 : Int) (r1 : Int) (r2 : Int) (r3 : Int) (w0 w : World) (hI : IsS98 w0 w g s0_0 s0_1 s0_2) (hB : Below w0.heap.size w0 w) (h : spec_l1Below.f s0_0 s0_1 s0_2 a1 = some (r1, r2, r3)) :
  Calls Try.prog 69 #[.pointer (some ⟨g, 0, none⟩), .int .i64 a1] w fun e w' => e = .returned (.int .i64 r1) ∧ IsS98 w0 w' g s0_0 r2 r3 ∧ Below w0.heap.size w0 w' ∧ KeepBut w w' g none := by
 have HI0 := aA.mk hI
 have HK := aA.mk (KeepBut.refl w g none)
 have HL := aA.mk hB.size
 clear hI
 have HW0 := aA.mk hB.size
 have HB := aA.mk hB
 clear hB
 have H : (if a1 ≤ 0 then (some (0, s0_1, s0_2)) else (if a1 ≤ 256 then ((spec_l1Byte.f s0_0 s0_1 s0_2).bind fun bt157 => (if a1 = 0 then (none) else (some (Int.tmod bt157.1 a1, bt157.2.1, bt157.2.2)))) else ((spec_l1Byte.f s0_0 s0_1 s0_2).bind fun bt160 => ((spec_l1Byte.f s0_0 bt160.2.1 bt160.2.2).bind fun bt163 => ((spec_l1Byte.f s0_0 bt163.2.1 bt163.2.2).bind fun bt166 => (if a1 = 0 then (none) else (some (Int.tmod (wrap64 ((wrap64 ((wrap64 (bt160.1 * 65536)) + (wrap64 (bt163.1 * 256)))) + bt166.1)) a1, bt166.2.1, bt166.2.2)))))))) = some (r1, r2, r3) := h
 clear h
 by_cases c3 : a1 ≤ 0
 ·rw [if_pos c3] at H
  have c3b0 : decide (a1 ≤ 0) = true := decide_eq_true c3
  clear c3
  simp only [Option.some.injEq, Prod.mk.injEq] at H
  obtain ⟨rfl, rfl, rfl⟩ := H
  go_enter Try.func69, Try.ntmps69
  go_wp2
  go_ret
  exact ⟨by first | rfl | (simp [errW_none, errW_some] <;> rfl) | (simp [*, errW_none, errW_some] <;> rfl), by repeat (first | (with_reducible first | exact HI0.out | apply IsS98.alloc | apply IsS98.drewN | apply IsS98.drew | apply IsS98.set_1 | apply IsS98.set_2) | exact HI0.out), by repeat (first | (with_reducible first | exact HB.out | apply aH | apply aE | apply aG | refine aN ?_ (IsS98.ge HI0.out)) | exact HB.out), by repeat (first | (with_reducible first | exact HK.out | apply KeepBut.set_ | apply bF | apply bJ | apply bG) | exact HK.out)⟩
 ·rw [if_neg c3] at H
  have c3b0 : decide (a1 ≤ 0) = false := decide_eq_false c3
  clear c3
  by_cases c4 : a1 ≤ 256
  ·rw [if_pos c4] at H
   have c4b0 : decide (a1 ≤ 256) = true := decide_eq_true c4
   clear c4
   replace H := lF H
   obtain ⟨⟨t157, t158, t159⟩, A50, H⟩ := H
   replace H : (if a1 = 0 then (none) else (some (Int.tmod t157 a1, t158, t159))) = some (r1, r2, r3) := H
   have A5 := aA.mk A50
   clear A50
   by_cases c6 : a1 = 0
   ·rw [if_pos c6] at H
    exact absurd H (by simp)
   ·rw [if_neg c6] at H
    have c6b0 : (a1 == 0) = false := beq_eq_false_iff_ne.mpr c6
    have c6b1 : (a1 != 0) = true := bne_iff_ne.mpr c6
    simp only [Option.some.injEq, Prod.mk.injEq] at H
    obtain ⟨rfl, rfl, rfl⟩ := H
    go_enter Try.func69, Try.ntmps69
    go_wp2_with (first | ((with_reducible refine bK (f := 86) rfl ?_); refine goesL_ (some 13) rfl rfl Try.func86 (by kernel_rfl) rfl #[.pointer (some ⟨g, 0, none⟩)] rfl (by (try simp only [List.map_toArray, List.map_cons, List.map_nil]); first | done | rfl | (simp only [List.length_drop, List.length_take]; rfl)) ?_; (with_reducible refine (spec_l1Byte.calls g s0_0 s0_1 s0_2 t157 t158 t159 w0 _ ?side1 ?side2 A5.out).mono ?_); (case side1 => repeat (first | (with_reducible first | exact HI0.out | apply IsS98.alloc | apply IsS98.drewN | apply IsS98.drew | apply IsS98.set_1 | apply IsS98.set_2) | exact HI0.out)); (case side2 => repeat (first | (with_reducible first | exact HB.out | apply aH | apply aE | apply aG | refine aN ?_ (IsS98.ge HI0.out)) | exact HB.out)); rintro e w7 ⟨rfl, hi, hb, hk⟩; refine ⟨_, rfl, ?_⟩; have n0_ := aA.mk (KeepBut.trans (by repeat (first | (with_reducible first | exact HK.out | apply KeepBut.set_ | apply bF | apply bJ | apply bG) | exact HK.out)) hk (.inl rfl)); have n1_ := aA.mk (hb); have n2_ := aA.mk (hi); clear HK; clear HB; clear HI0; have HK := n0_; have HB := n1_; have HI0 := n2_; clear n0_ n1_ n2_; (try clear hb); (try clear hk); (try clear hi)))
    go_ret
    exact ⟨by first | rfl | (simp [errW_none, errW_some] <;> rfl) | (simp [*, errW_none, errW_some] <;> rfl), by repeat (first | (with_reducible first | exact HI0.out | apply IsS98.alloc | apply IsS98.drewN | apply IsS98.drew | apply IsS98.set_1 | apply IsS98.set_2) | exact HI0.out), by repeat (first | (with_reducible first | exact HB.out | apply aH | apply aE | apply aG | refine aN ?_ (IsS98.ge HI0.out)) | exact HB.out), by repeat (first | (with_reducible first | exact HK.out | apply KeepBut.set_ | apply bF | apply bJ | apply bG) | exact HK.out)⟩
  ·rw [if_neg c4] at H
   have c4b0 : decide (a1 ≤ 256) = false := decide_eq_false c4
   clear c4
   replace H := lF H
   obtain ⟨⟨t160, t161, t162⟩, A80, H⟩ := H
   replace H : ((spec_l1Byte.f s0_0 t161 t162).bind fun bt163 => ((spec_l1Byte.f s0_0 bt163.2.1 bt163.2.2).bind fun bt166 => (if a1 = 0 then (none) else (some (Int.tmod (wrap64 ((wrap64 ((wrap64 (t160 * 65536)) + (wrap64 (bt163.1 * 256)))) + bt166.1)) a1, bt166.2.1, bt166.2.2))))) = some (r1, r2, r3) := H
   have A8 := aA.mk A80
   clear A80
   replace H := lF H
   obtain ⟨⟨t163, t164, t165⟩, A90, H⟩ := H
   replace H : ((spec_l1Byte.f s0_0 t164 t165).bind fun bt166 => (if a1 = 0 then (none) else (some (Int.tmod (wrap64 ((wrap64 ((wrap64 (t160 * 65536)) + (wrap64 (t163 * 256)))) + bt166.1)) a1, bt166.2.1, bt166.2.2)))) = some (r1, r2, r3) := H
   have A9 := aA.mk A90
   clear A90
   replace H := lF H
   obtain ⟨⟨t166, t167, t168⟩, A100, H⟩ := H
   replace H : (if a1 = 0 then (none) else (some (Int.tmod (wrap64 ((wrap64 ((wrap64 (t160 * 65536)) + (wrap64 (t163 * 256)))) + t166)) a1, t167, t168))) = some (r1, r2, r3) := H
   have A10 := aA.mk A100
   clear A100
   by_cases c11 : a1 = 0
   ·rw [if_pos c11] at H
    exact absurd H (by simp)
   ·rw [if_neg c11] at H
    have c11b0 : (a1 == 0) = false := beq_eq_false_iff_ne.mpr c11
    have c11b1 : (a1 != 0) = true := bne_iff_ne.mpr c11
    simp only [Option.some.injEq, Prod.mk.injEq] at H
    obtain ⟨rfl, rfl, rfl⟩ := H
    go_enter Try.func69, Try.ntmps69
    go_wp2_with (first | ((with_reducible refine bK (f := 86) rfl ?_); refine goesL_ (some 17) rfl rfl Try.func86 (by kernel_rfl) rfl #[.pointer (some ⟨g, 0, none⟩)] rfl (by (try simp only [List.map_toArray, List.map_cons, List.map_nil]); first | done | rfl | (simp only [List.length_drop, List.length_take]; rfl)) ?_; (with_reducible refine (spec_l1Byte.calls g s0_0 s0_1 s0_2 t160 t161 t162 w0 _ ?side1 ?side2 A8.out).mono ?_); (case side1 => repeat (first | (with_reducible first | exact HI0.out | apply IsS98.alloc | apply IsS98.drewN | apply IsS98.drew | apply IsS98.set_1 | apply IsS98.set_2) | exact HI0.out)); (case side2 => repeat (first | (with_reducible first | exact HB.out | apply aH | apply aE | apply aG | refine aN ?_ (IsS98.ge HI0.out)) | exact HB.out)); rintro e w12 ⟨rfl, hi, hb, hk⟩; refine ⟨_, rfl, ?_⟩; have n0_ := aA.mk (KeepBut.trans (by repeat (first | (with_reducible first | exact HK.out | apply KeepBut.set_ | apply bF | apply bJ | apply bG) | exact HK.out)) hk (.inl rfl)); have n1_ := aA.mk (hb); have n2_ := aA.mk (hi); clear HK; clear HB; clear HI0; have HK := n0_; have HB := n1_; have HI0 := n2_; clear n0_ n1_ n2_; (try clear hb); (try clear hk); (try clear hi)) | ((with_reducible refine bK (f := 86) rfl ?_); refine goesL_ (some 19) rfl rfl Try.func86 (by kernel_rfl) rfl #[.pointer (some ⟨g, 0, none⟩)] rfl (by (try simp only [List.map_toArray, List.map_cons, List.map_nil]); first | done | rfl | (simp only [List.length_drop, List.length_take]; rfl)) ?_; (with_reducible refine (spec_l1Byte.calls g s0_0 t161 t162 t163 t164 t165 w0 _ ?side1 ?side2 A9.out).mono ?_); (case side1 => repeat (first | (with_reducible first | exact HI0.out | apply IsS98.alloc | apply IsS98.drewN | apply IsS98.drew | apply IsS98.set_1 | apply IsS98.set_2) | exact HI0.out)); (case side2 => repeat (first | (with_reducible first | exact HB.out | apply aH | apply aE | apply aG | refine aN ?_ (IsS98.ge HI0.out)) | exact HB.out)); rintro e w13 ⟨rfl, hi, hb, hk⟩; refine ⟨_, rfl, ?_⟩; have n0_ := aA.mk (KeepBut.trans (by repeat (first | (with_reducible first | exact HK.out | apply KeepBut.set_ | apply bF | apply bJ | apply bG) | exact HK.out)) hk (.inl rfl)); have n1_ := aA.mk (hb); have n2_ := aA.mk (hi); clear HK; clear HB; clear HI0; have HK := n0_; have HB := n1_; have HI0 := n2_; clear n0_ n1_ n2_; (try clear hb); (try clear hk); (try clear hi)) | ((with_reducible refine bK (f := 86) rfl ?_); refine goesL_ (some 21) rfl rfl Try.func86 (by kernel_rfl) rfl #[.pointer (some ⟨g, 0, none⟩)] rfl (by (try simp only [List.map_toArray, List.map_cons, List.map_nil]); first | done | rfl | (simp only [List.length_drop, List.length_take]; rfl)) ?_; (with_reducible refine (spec_l1Byte.calls g s0_0 t164 t165 t166 t167 t168 w0 _ ?side1 ?side2 A10.out).mono ?_); (case side1 => repeat (first | (with_reducible first | exact HI0.out | apply IsS98.alloc | apply IsS98.drewN | apply IsS98.drew | apply IsS98.set_1 | apply IsS98.set_2) | exact HI0.out)); (case side2 => repeat (first | (with_reducible first | exact HB.out | apply aH | apply aE | apply aG | refine aN ?_ (IsS98.ge HI0.out)) | exact HB.out)); rintro e w14 ⟨rfl, hi, hb, hk⟩; refine ⟨_, rfl, ?_⟩; have n0_ := aA.mk (KeepBut.trans (by repeat (first | (with_reducible first | exact HK.out | apply KeepBut.set_ | apply bF | apply bJ | apply bG) | exact HK.out)) hk (.inl rfl)); have n1_ := aA.mk (hb); have n2_ := aA.mk (hi); clear HK; clear HB; clear HI0; have HK := n0_; have HB := n1_; have HI0 := n2_; clear n0_ n1_ n2_; (try clear hb); (try clear hk); (try clear hi)))
    go_ret
    exact ⟨by first | rfl | (simp [errW_none, errW_some] <;> rfl) | (simp [*, errW_none, errW_some] <;> rfl), by repeat (first | (with_reducible first | exact HI0.out | apply IsS98.alloc | apply IsS98.drewN | apply IsS98.drew | apply IsS98.set_1 | apply IsS98.set_2) | exact HI0.out), by repeat (first | (with_reducible first | exact HB.out | apply aH | apply aE | apply aG | refine aN ?_ (IsS98.ge HI0.out)) | exact HB.out), by repeat (first | (with_reducible first | exact HK.out | apply KeepBut.set_ | apply bF | apply bJ | apply bG) | exact HK.out)⟩
def spec_l1Int.f (s0_0 : List Int) (s0_1 : Int) (s0_2 : Int) (l1 : List Int) : Option (Int × Int × Int) := (spec_l1Below.f s0_0 s0_1 s0_2 (l1.length : Int)).bind fun bt169 => (if 0 ≤ bt169.1 then (if bt169.1 < (l1.length : Int) then (some (rd l1 bt169.1, bt169.2.1, bt169.2.2)) else (none)) else (none))
set_option maxHeartbeats 8000000 in
set_option maxRecDepth 100000 in
theorem spec_l1Int.calls (g : Nat) (s0_0 : List Int) (s0_1 : Int) (s0_2 : Int) (A1 : Option Addr) (c1 : Nat) (l1 : List Int) (r1 : Int) (r2 : Int) (r3 : Int) (w0 w : World) (hI : IsS98 w0 w g s0_0 s0_1 s0_2) (hB : Below w0.heap.size w0 w) (hr1 : Kd.C (Kd.int .i64) w A1 l1.length l1) (hc1 : l1.length ≤ c1) (hf1 : ∀ ad, A1 = some ad → 0 < l1.length → ad.block ≠ g) (h : spec_l1Int.f s0_0 s0_1 s0_2 l1 = some (r1, r2, r3)) :
  Calls Try.prog 87 #[.pointer (some ⟨g, 0, none⟩), .slice A1 l1.length c1] w fun e w' => e = .returned (.int .i64 r1) ∧ IsS98 w0 w' g s0_0 r2 r3 ∧ Below w0.heap.size w0 w' ∧ KeepBut w w' g none := by
 have HR1 := aA.mk hr1
 have HC1 := aA.mk hc1
 clear hr1 hc1
 have HI0 := aA.mk hI
 have HK := aA.mk (KeepBut.refl w g none)
 have HL := aA.mk hB.size
 clear hI
 have HW0 := aA.mk hB.size
 have HB := aA.mk hB
 clear hB
 have H : ((spec_l1Below.f s0_0 s0_1 s0_2 (l1.length : Int)).bind fun bt169 => (if 0 ≤ bt169.1 then (if bt169.1 < (l1.length : Int) then (some (rd l1 bt169.1, bt169.2.1, bt169.2.2)) else (none)) else (none))) = some (r1, r2, r3) := h
 clear h
 replace H := lF H
 obtain ⟨⟨t169, t170, t171⟩, A30, H⟩ := H
 replace H : (if 0 ≤ t169 then (if t169 < (l1.length : Int) then (some (rd l1 t169, t170, t171)) else (none)) else (none)) = some (r1, r2, r3) := H
 have A3 := aA.mk A30
 clear A30
 by_cases c4 : 0 ≤ t169
 ·rw [if_pos c4] at H
  have c4b0 : decide (0 ≤ t169) = true := decide_eq_true c4
  clear c4
  by_cases c5 : t169 < (l1.length : Int)
  ·rw [if_pos c5] at H
   have c5b0 : decide (t169 < (l1.length : Int)) = true := decide_eq_true c5
   clear c5
   simp only [Option.some.injEq, Prod.mk.injEq] at H
   obtain ⟨rfl, rfl, rfl⟩ := H
   go_enter Try.func87, Try.ntmps87
   go_wp2_with (first | ((with_reducible refine bK (f := 69) rfl ?_); refine goesL_ (some 9) rfl rfl Try.func69 (by kernel_rfl) rfl #[.pointer (some ⟨g, 0, none⟩), .int .i64 (l1.length : Int)] rfl (by (try simp only [List.map_toArray, List.map_cons, List.map_nil]); first | done | rfl | (simp only [List.length_drop, List.length_take]; rfl)) ?_; (with_reducible refine (spec_l1Below.calls g s0_0 s0_1 s0_2 (l1.length : Int) t169 t170 t171 w0 _ ?side1 ?side2 A3.out).mono ?_); (case side1 => repeat (first | (with_reducible first | exact HI0.out | apply IsS98.alloc | apply IsS98.drewN | apply IsS98.drew | apply IsS98.set_1 | apply IsS98.set_2) | exact HI0.out)); (case side2 => repeat (first | (with_reducible first | exact HB.out | apply aH | apply aE | apply aG | refine aN ?_ (IsS98.ge HI0.out)) | exact HB.out)); rintro e w6 ⟨rfl, hi, hb, hk⟩; refine ⟨_, rfl, ?_⟩; have n0_ := aA.mk (KeepBut.trans (by repeat (first | (with_reducible first | exact HK.out | apply KeepBut.set_ | apply bF | apply bJ | apply bG) | exact HK.out)) hk (.inl rfl)); have n1_ := aA.mk (hb); have n2_ := aA.mk (hi); clear HK; clear HB; clear HI0; have HK := n0_; have HB := n1_; have HI0 := n2_; clear n0_ n1_ n2_; (try clear hb); (try clear hk); (try clear hi); have p172 : 0 ≤ (t169 : Int) := lE (by first | (with_reducible assumption) | assumption); have q172 : t169 < (l1.length : Int) := lE (by first | (with_reducible assumption) | assumption); obtain ⟨ad172, e172, hx172_0⟩ := Kd.at_int HR1.out t169 p172 q172; cases e172; replace hx172_0 := keep_cell HK.out hx172_0 (by first | (rw [add_block]; exact hf1 _ rfl (by omega)) | exact hf1 _ rfl (by omega) | exact hf1 ad172 rfl (by omega)); replace p172 := eq_true p172; replace q172 := eq_true q172))
   go_ret
   exact ⟨by first | rfl | (simp [errW_none, errW_some] <;> rfl) | (simp [*, errW_none, errW_some] <;> rfl), by repeat (first | (with_reducible first | exact HI0.out | apply IsS98.alloc | apply IsS98.drewN | apply IsS98.drew | apply IsS98.set_1 | apply IsS98.set_2) | exact HI0.out), by repeat (first | (with_reducible first | exact HB.out | apply aH | apply aE | apply aG | refine aN ?_ (IsS98.ge HI0.out)) | exact HB.out), by repeat (first | (with_reducible first | exact HK.out | apply KeepBut.set_ | apply bF | apply bJ | apply bG) | exact HK.out)⟩
  ·rw [if_neg c5] at H
   exact absurd H (by simp)
 ·rw [if_neg c4] at H
  exact absurd H (by simp)
def spec_l3Draw.f (s0_0 : List Int) (s0_1 : Int) (s0_2 : Int) : Option (Int × Int × Int × Int × Int × Int × Int) := (spec_l1Below.f s0_0 s0_1 s0_2 4).bind fun bt174 => ((spec_l1Below.f s0_0 bt174.2.1 bt174.2.2 5).bind fun bt177 => ((spec_l1Int.f s0_0 bt177.2.1 bt177.2.2 (([0, 1, 1, 1, 2] : List Int))).bind fun bt183 => (if bt183.1 = 1 then ((spec_l1Below.f s0_0 bt183.2.1 bt183.2.2 24).bind fun bt187 => ((spec_l1Int.f s0_0 bt187.2.1 bt187.2.2 (([0, 1, 256, 999] : List Int))).bind fun bt193 => (some (bt174.1, wrap64 (1 + bt177.1), bt183.1, bt187.1, bt193.1, bt193.2.1, bt193.2.2)))) else (some (bt174.1, wrap64 (1 + bt177.1), bt183.1, 0, 0, bt183.2.1, bt183.2.2)))))
set_option maxHeartbeats 8000000 in
set_option maxRecDepth 100000 in
theorem spec_l3Draw.calls (g : Nat) (s0_0 : List Int) (s0_1 : Int) (s0_2 : Int) (r1 : Int) (r2 : Int) (r3 : Int) (r4 : Int) (r5 : Int) (r6 : Int) (r7 : Int) (w0 w : World) (hI : IsS98 w0 w g s0_0 s0_1 s0_2) (hB : Below w0.heap.size w0 w) (h : spec_l3Draw.f s0_0 s0_1 s0_2 = some (r1, r2, r3, r4, r5, r6, r7)) :
  Calls Try.prog 72 #[.pointer (some ⟨g, 0, none⟩)] w fun e w' => e = .returned (.agg #[.int .i64 r1, .int .i64 r2, .int .i64 r3, .int .i64 r4, .int .i64 r5]) ∧ IsS98 w0 w' g s0_0 r6 r7 ∧ Below w0.heap.size w0 w' ∧ KeepBut w w' g none := by
 have hu27 := Try.underlying27
 have HI0 := aA.mk hI
 have HK := aA.mk (KeepBut.refl w g none)
 have HL := aA.mk hB.size
 clear hI
 have HW0 := aA.mk hB.size
 have HB := aA.mk hB
 clear hB
 have H : ((spec_l1Below.f s0_0 s0_1 s0_2 4).bind fun bt174 => ((spec_l1Below.f s0_0 bt174.2.1 bt174.2.2 5).bind fun bt177 => ((spec_l1Int.f s0_0 bt177.2.1 bt177.2.2 (([0, 1, 1, 1, 2] : List Int))).bind fun bt183 => (if bt183.1 = 1 then ((spec_l1Below.f s0_0 bt183.2.1 bt183.2.2 24).bind fun bt187 => ((spec_l1Int.f s0_0 bt187.2.1 bt187.2.2 (([0, 1, 256, 999] : List Int))).bind fun bt193 => (some (bt174.1, wrap64 (1 + bt177.1), bt183.1, bt187.1, bt193.1, bt193.2.1, bt193.2.2)))) else (some (bt174.1, wrap64 (1 + bt177.1), bt183.1, 0, 0, bt183.2.1, bt183.2.2)))))) = some (r1, r2, r3, r4, r5, r6, r7) := h
 clear h
 replace H := lF H
 obtain ⟨⟨t174, t175, t176⟩, A20, H⟩ := H
 replace H : ((spec_l1Below.f s0_0 t175 t176 5).bind fun bt177 => ((spec_l1Int.f s0_0 bt177.2.1 bt177.2.2 (([0, 1, 1, 1, 2] : List Int))).bind fun bt183 => (if bt183.1 = 1 then ((spec_l1Below.f s0_0 bt183.2.1 bt183.2.2 24).bind fun bt187 => ((spec_l1Int.f s0_0 bt187.2.1 bt187.2.2 (([0, 1, 256, 999] : List Int))).bind fun bt193 => (some (t174, wrap64 (1 + bt177.1), bt183.1, bt187.1, bt193.1, bt193.2.1, bt193.2.2)))) else (some (t174, wrap64 (1 + bt177.1), bt183.1, 0, 0, bt183.2.1, bt183.2.2))))) = some (r1, r2, r3, r4, r5, r6, r7) := H
 have A2 := aA.mk A20
 clear A20
 replace H := lF H
 obtain ⟨⟨t177, t178, t179⟩, A30, H⟩ := H
 replace H : ((spec_l1Int.f s0_0 t178 t179 (([0, 1, 1, 1, 2] : List Int))).bind fun bt183 => (if bt183.1 = 1 then ((spec_l1Below.f s0_0 bt183.2.1 bt183.2.2 24).bind fun bt187 => ((spec_l1Int.f s0_0 bt187.2.1 bt187.2.2 (([0, 1, 256, 999] : List Int))).bind fun bt193 => (some (t174, wrap64 (1 + t177), bt183.1, bt187.1, bt193.1, bt193.2.1, bt193.2.2)))) else (some (t174, wrap64 (1 + t177), bt183.1, 0, 0, bt183.2.1, bt183.2.2)))) = some (r1, r2, r3, r4, r5, r6, r7) := H
 have A3 := aA.mk A30
 clear A30
 obtain ⟨y180, hy180⟩ : ∃ y_ : List Int, y_ = (([0, 1, 1, 1, 2] : List Int)) := ⟨_, rfl⟩
 replace H : ((spec_l1Int.f s0_0 t178 t179 y180).bind fun bt183 => (if bt183.1 = 1 then ((spec_l1Below.f s0_0 bt183.2.1 bt183.2.2 24).bind fun bt187 => ((spec_l1Int.f s0_0 bt187.2.1 bt187.2.2 (([0, 1, 256, 999] : List Int))).bind fun bt193 => (some (t174, wrap64 (1 + t177), bt183.1, bt187.1, bt193.1, bt193.2.1, bt193.2.2)))) else (some (t174, wrap64 (1 + t177), bt183.1, 0, 0, bt183.2.1, bt183.2.2)))) = some (r1, r2, r3, r4, r5, r6, r7) := by first | (rw [hy180]; with_reducible exact H) | (have H2_ := (Option.bind_some _ _).symm.trans H; rw [hy180]; with_reducible exact H2_) | (have H2_ := (Option.bind_some _ _).symm.trans H; with_reducible exact H2_) | with_reducible exact H | (rw [hy180]; exact H) | exact H
 have Ny180 := aA.mk hy180
 clear hy180
 replace H := lF H
 obtain ⟨⟨t183, t184, t185⟩, A40, H⟩ := H
 replace H : (if t183 = 1 then ((spec_l1Below.f s0_0 t184 t185 24).bind fun bt187 => ((spec_l1Int.f s0_0 bt187.2.1 bt187.2.2 (([0, 1, 256, 999] : List Int))).bind fun bt193 => (some (t174, wrap64 (1 + t177), t183, bt187.1, bt193.1, bt193.2.1, bt193.2.2)))) else (some (t174, wrap64 (1 + t177), t183, 0, 0, t184, t185))) = some (r1, r2, r3, r4, r5, r6, r7) := H
 have A4 := aA.mk A40
 clear A40
 by_cases c5 : t183 = 1
 ·rw [if_pos c5] at H
  have c5b0 : (t183 == 1) = true := beq_iff_eq.mpr c5
  have c5b1 : (t183 != 1) = false := bne_eq_false_iff_eq.mpr c5
  clear c5
  replace H := lF H
  obtain ⟨⟨t187, t188, t189⟩, A60, H⟩ := H
  replace H : ((spec_l1Int.f s0_0 t188 t189 (([0, 1, 256, 999] : List Int))).bind fun bt193 => (some (t174, wrap64 (1 + t177), t183, t187, bt193.1, bt193.2.1, bt193.2.2))) = some (r1, r2, r3, r4, r5, r6, r7) := H
  have A6 := aA.mk A60
  clear A60
  obtain ⟨y190, hy190⟩ : ∃ y_ : List Int, y_ = (([0, 1, 256, 999] : List Int)) := ⟨_, rfl⟩
  replace H : ((spec_l1Int.f s0_0 t188 t189 y190).bind fun bt193 => (some (t174, wrap64 (1 + t177), t183, t187, bt193.1, bt193.2.1, bt193.2.2))) = some (r1, r2, r3, r4, r5, r6, r7) := by first | (rw [hy190]; with_reducible exact H) | (have H2_ := (Option.bind_some _ _).symm.trans H; rw [hy190]; with_reducible exact H2_) | (have H2_ := (Option.bind_some _ _).symm.trans H; with_reducible exact H2_) | with_reducible exact H | (rw [hy190]; exact H) | exact H
  have Ny190 := aA.mk hy190
  clear hy190
  replace H := lF H
  obtain ⟨⟨t193, t194, t195⟩, A70, H⟩ := H
  replace H : (some (t174, wrap64 (1 + t177), t183, t187, t193, t194, t195)) = some (r1, r2, r3, r4, r5, r6, r7) := H
  have A7 := aA.mk A70
  clear A70
  simp only [Option.some.injEq, Prod.mk.injEq] at H
  obtain ⟨rfl, rfl, rfl, rfl, rfl, rfl, rfl⟩ := H
  go_enter Try.func72, Try.ntmps72
  go_wp2_with (first | ((with_reducible refine bL (N := 2) rfl ?_); refine bM ?hg (N := 2) ?hd (cs := #[.int .i64 0, .int .i64 0, .int .i64 0, .int .i64 0, .int .i64 0]) (t := 27) ?hr ?_; (case hd => rfl); (case hg => rfl); (case hr => first | (go_simp; done) | (go_simp; rfl)); intro gb173 hg w8 hbox hb; have n0_ := aA.mk (IsS98.below (by repeat (first | (with_reducible first | exact HI0.out | apply IsS98.alloc | apply IsS98.drewN | apply IsS98.drew | apply IsS98.set_1 | apply IsS98.set_2) | exact HI0.out)) hb); have n1_ := aA.mk (KeepBut.trans (by repeat (first | (with_reducible first | exact HK.out | apply KeepBut.set_ | apply bF | apply bJ | apply bG) | exact HK.out)) (KeepBut.of_below hb g none) (.inl rfl)); have n2_ := aA.mk (aX (by repeat (first | (with_reducible first | exact HB.out | apply aH | apply aE | apply aG | refine aN ?_ (IsS98.ge HI0.out)) | exact HB.out)) hb); have n3_ := aA.mk (hbox); have n4_ := aA.mk ((by rw [hg]; exact (keep_size (w := w) (g := g) (row := none) (by repeat (first | (with_reducible first | exact HK.out | apply KeepBut.set_ | apply bF | apply bJ | apply bG) | exact HK.out))) : w.heap.size ≤ gb173)); have n5_ := aA.mk ((Nat.le_trans HW0.out (by rw [hg]; exact (keep_size (w := w) (g := g) (row := none) (by repeat (first | (with_reducible first | exact HK.out | apply KeepBut.set_ | apply bF | apply bJ | apply bG) | exact HK.out))) : w.heap.size ≤ gb173) : w0.heap.size ≤ gb173)); have n6_ := aA.mk ((by rw [hg]; exact Nat.ne_of_lt (IsS98.lt (show IsS98 w0 _ g s0_0 s0_1 s0_2 from by repeat (first | (with_reducible first | exact HI0.out | apply IsS98.alloc | apply IsS98.drewN | apply IsS98.drew | apply IsS98.set_1 | apply IsS98.set_2) | exact HI0.out))) : g ≠ gb173)); have n7_ := aA.mk ((by rw [hg]; exact Nat.ne_of_gt (IsS98.lt (show IsS98 w0 _ g s0_0 s0_1 s0_2 from by repeat (first | (with_reducible first | exact HI0.out | apply IsS98.alloc | apply IsS98.drewN | apply IsS98.drew | apply IsS98.set_1 | apply IsS98.set_2) | exact HI0.out))) : gb173 ≠ g)); clear HI0; clear HK; clear HB; have HI0 := n0_; have HK := n1_; have HB := n2_; have BK173 := n3_; have GW173 := n4_; have GE173 := n5_; have NB0_173 := n6_; have NB173_0 := n7_; clear n0_ n1_ n2_ n3_ n4_ n5_ n6_ n7_; clear hb hbox hg) | ((with_reducible refine bK (f := 69) rfl ?_); refine goesL_ (some 5) rfl rfl Try.func69 (by kernel_rfl) rfl #[.pointer (some ⟨g, 0, none⟩), .int .i64 4] rfl (by (try simp only [List.map_toArray, List.map_cons, List.map_nil]); first | done | rfl | (simp only [List.length_drop, List.length_take]; rfl)) ?_; (with_reducible refine (spec_l1Below.calls g s0_0 s0_1 s0_2 4 t174 t175 t176 w0 _ ?side1 ?side2 A2.out).mono ?_); (case side1 => repeat (first | (with_reducible first | exact HI0.out | apply IsS98.alloc | apply IsS98.drewN | apply IsS98.drew | apply IsS98.set_1 | apply IsS98.set_2 | apply IsS98.far (hne := NB0_173.out)) | exact HI0.out)); (case side2 => repeat (first | (with_reducible first | exact HB.out | apply aH | apply aE | apply aG | refine aN ?_ (IsS98.ge HI0.out) | refine aN ?_ GE173.out) | exact HB.out)); rintro e w9 ⟨rfl, hi, hb, hk⟩; refine ⟨_, rfl, ?_⟩; have n0_ := aA.mk (KeepBut.blk hk (g' := gb173) (o := .cells #[.int .i64 0, .int .i64 0, .int .i64 0, .int .i64 0, .int .i64 0] 27 (0, 0)) (by (with_reducible repeat (first | refine aJ ?_ _ | refine aM ?_ | refine aK ?_ _)); exact BK173.out) NB173_0.out (by simp)); have n1_ := aA.mk (KeepBut.trans (by repeat (first | (with_reducible first | exact HK.out | apply KeepBut.set_ | apply bF | apply bJ | apply bG | refine keep_far ?_ GW173.out _) | exact HK.out)) hk (.inl rfl)); have n2_ := aA.mk (hb); have n3_ := aA.mk (hi); clear BK173; clear HK; clear HB; clear HI0; have BK173 := n0_; have HK := n1_; have HB := n2_; have HI0 := n3_; clear n0_ n1_ n2_ n3_; (try clear hb); (try clear hk); (try clear hi)) | ((with_reducible refine bK (f := 69) rfl ?_); refine goesL_ (some 7) rfl rfl Try.func69 (by kernel_rfl) rfl #[.pointer (some ⟨g, 0, none⟩), .int .i64 5] rfl (by (try simp only [List.map_toArray, List.map_cons, List.map_nil]); first | done | rfl | (simp only [List.length_drop, List.length_take]; rfl)) ?_; (with_reducible refine (spec_l1Below.calls g s0_0 t175 t176 5 t177 t178 t179 w0 _ ?side1 ?side2 A3.out).mono ?_); (case side1 => repeat (first | (with_reducible first | exact HI0.out | apply IsS98.alloc | apply IsS98.drewN | apply IsS98.drew | apply IsS98.set_1 | apply IsS98.set_2 | apply IsS98.far (hne := NB0_173.out)) | exact HI0.out)); (case side2 => repeat (first | (with_reducible first | exact HB.out | apply aH | apply aE | apply aG | refine aN ?_ (IsS98.ge HI0.out) | refine aN ?_ GE173.out) | exact HB.out)); rintro e w10 ⟨rfl, hi, hb, hk⟩; refine ⟨_, rfl, ?_⟩; have n0_ := aA.mk (KeepBut.blk hk (g' := gb173) (o := .cells #[.int .i64 0, .int .i64 0, .int .i64 0, .int .i64 0, .int .i64 0] 27 (0, 0)) (by (with_reducible repeat (first | refine aJ ?_ _ | refine aM ?_ | refine aK ?_ _)); exact BK173.out) NB173_0.out (by simp)); have n1_ := aA.mk (KeepBut.trans (by repeat (first | (with_reducible first | exact HK.out | apply KeepBut.set_ | apply bF | apply bJ | apply bG | refine keep_far ?_ GW173.out _) | exact HK.out)) hk (.inl rfl)); have n2_ := aA.mk (hb); have n3_ := aA.mk (hi); clear BK173; clear HK; clear HB; clear HI0; have BK173 := n0_; have HK := n1_; have HB := n2_; have HI0 := n3_; clear n0_ n1_ n2_ n3_; (try clear hb); (try clear hk); (try clear hi)) | ((with_reducible refine bL (N := 10) rfl ?_); refine Kd.R_lit (Kd.int .i64) _ 3 ?hg (N := 10) ?hd (xs := ([0, 1, 1, 1, 2] : List Int)) (inner := [.int .i64 0, .int .i64 1, .int .i64 1, .int .i64 1, .int .i64 2]) (ok := fun _ => True) (okp := fun _ => True) ?hr ?hp (fun _ hk => hk) trivial (Below.refl _ _) (Nat.le_refl _) (by simp) ?_; (case hd => rfl); (case hg => rfl); (case hr => first | (go_simp; done) | (go_simp; rfl)); (case hp => exact (Reps.one (show Kd.M (Kd.int .i64) _ _ _ 0 [.int .i64 0] from rfl) (Reps.one (show Kd.M (Kd.int .i64) _ _ _ 1 [.int .i64 1] from rfl) (Reps.one (show Kd.M (Kd.int .i64) _ _ _ 1 [.int .i64 1] from rfl) (Reps.one (show Kd.M (Kd.int .i64) _ _ _ 1 [.int .i64 1] from rfl) (Reps.one (show Kd.M (Kd.int .i64) _ _ _ 2 [.int .i64 2] from rfl) (Reps.none _ _))))))); intro v181 w11 ho12 hb hg_ hnew_; clear hg_ hnew_; (first | rw [← Ny180.out] at ho12 | (simp only [Int.reduceToNat] at ho12; rw [← Ny180.out] at ho12)); have n0_ := aA.mk (Kd.R_lower ho12 (keep_size (w := w) (g := g) (row := none) (by repeat (first | (with_reducible first | exact HK.out | apply KeepBut.set_ | apply bF | apply bJ | apply bG | refine keep_far ?_ GW173.out _) | exact HK.out)))); have n1_ := aA.mk (IsS98.below (by repeat (first | (with_reducible first | exact HI0.out | apply IsS98.alloc | apply IsS98.drewN | apply IsS98.drew | apply IsS98.set_1 | apply IsS98.set_2 | apply IsS98.far (hne := NB0_173.out)) | exact HI0.out)) hb); have n2_ := aA.mk (bE (g := gb173) (o := .cells #[.int .i64 0, .int .i64 0, .int .i64 0, .int .i64 0, .int .i64 0] 27 (0, 0)) (by (with_reducible repeat (first | refine aJ ?_ _ | refine aM ?_ | refine aK ?_ _)); exact BK173.out) hb); have n3_ := aA.mk (KeepBut.trans (by repeat (first | (with_reducible first | exact HK.out | apply KeepBut.set_ | apply bF | apply bJ | apply bG | refine keep_far ?_ GW173.out _) | exact HK.out)) (KeepBut.of_below hb g none) (.inl rfl)); have n4_ := aA.mk (aX (by repeat (first | (with_reducible first | exact HB.out | apply aH | apply aE | apply aG | refine aN ?_ (IsS98.ge HI0.out) | refine aN ?_ GE173.out) | exact HB.out)) hb); clear HI0; clear BK173; clear HK; clear HB; have HO182 := n0_; have HI0 := n1_; have BK173 := n2_; have HK := n3_; have HB := n4_; clear n0_ n1_ n2_ n3_ n4_; clear hb ho12; obtain ⟨Ao13, co13, eo13⟩ := Kd.R_slice HO182.out; subst eo13) | ((with_reducible refine bK (f := 87) rfl ?_); refine goesL_ (some 11) rfl rfl Try.func87 (by kernel_rfl) rfl #[.pointer (some ⟨g, 0, none⟩), .slice Ao13 y180.length co13] rfl (by (try simp only [List.map_toArray, List.map_cons, List.map_nil]); first | done | rfl | (simp only [List.length_drop, List.length_take]; rfl)) ?_; (with_reducible refine (spec_l1Int.calls g s0_0 t178 t179 _ _ y180 t183 t184 t185 w0 _ ?side1 ?side2 ?side3 ?side4 ?side5 A4.out).mono ?_); (case side1 => repeat (first | (with_reducible first | exact HI0.out | apply IsS98.alloc | apply IsS98.drewN | apply IsS98.drew | apply IsS98.set_1 | apply IsS98.set_2 | apply IsS98.far (hne := NB0_173.out)) | exact HI0.out)); (case side2 => repeat (first | (with_reducible first | exact HB.out | apply aH | apply aE | apply aG | refine aN ?_ (IsS98.ge HI0.out) | refine aN ?_ GE173.out) | exact HB.out)); (case side3 => repeat (first | exact (Kd.R_reads' HO182.out).2.2 | (with_reducible refine Kd.C_alloc ?_ _) | (with_reducible refine Kd.C_drewN ?_ _) | (with_reducible refine Kd.C_drew ?_))); (case side4 => exact (Kd.R_reads' HO182.out).2.1); (case side5 => exact far_slice (IsS98.own_ne HI0.out HO182.out (by decide))); rintro e w14 ⟨rfl, hi, hb, hk⟩; refine ⟨_, rfl, ?_⟩; have n0_ := aA.mk (KeepBut.blk hk (g' := gb173) (o := .cells #[.int .i64 0, .int .i64 0, .int .i64 0, .int .i64 0, .int .i64 0] 27 (0, 0)) (by (with_reducible repeat (first | refine aJ ?_ _ | refine aM ?_ | refine aK ?_ _)); exact BK173.out) NB173_0.out (by simp)); have n1_ := aA.mk (Kd.R_mono (Kd.R_keep (IsS98.apart (show IsS98 w0 _ g s0_0 t178 t179 from by repeat (first | (with_reducible first | exact HI0.out | apply IsS98.alloc | apply IsS98.drewN | apply IsS98.drew | apply IsS98.set_1 | apply IsS98.set_2 | apply IsS98.far (hne := NB0_173.out)) | exact HI0.out)) (by (with_reducible repeat (first | apply Kd.bC | apply Kd.bD | apply Kd.aY)); exact HO182.out) (by decide)) hk (fun _ h => h.2)) (fun _ h => h.1)); have n2_ := aA.mk (KeepBut.trans (by repeat (first | (with_reducible first | exact HK.out | apply KeepBut.set_ | apply bF | apply bJ | apply bG | refine keep_far ?_ GW173.out _) | exact HK.out)) hk (.inl rfl)); have n3_ := aA.mk (hb); have n4_ := aA.mk (hi); clear BK173; clear HO182; clear HK; clear HB; clear HI0; have BK173 := n0_; have HO182 := n1_; have HK := n2_; have HB := n3_; have HI0 := n4_; clear n0_ n1_ n2_ n3_ n4_; (try clear hb); (try clear hk); (try clear hi)) | ((with_reducible refine bL (N := 3) rfl ?_); refine bM ?hg (N := 3) ?hd (cs := #[.int .i64 0, .int .i64 0, .int .i64 0, .int .i64 0, .int .i64 0]) (t := 27) ?hr ?_; (case hd => rfl); (case hg => rfl); (case hr => first | (go_simp; done) | (go_simp; rfl)); intro gb186 hg w15 hbox hb; have n0_ := aA.mk (Kd.bB (by (with_reducible repeat (first | apply Kd.bC | apply Kd.bD | apply Kd.aY)); exact HO182.out) hb); have n1_ := aA.mk (IsS98.below (by repeat (first | (with_reducible first | exact HI0.out | apply IsS98.alloc | apply IsS98.drewN | apply IsS98.drew | apply IsS98.set_1 | apply IsS98.set_2 | apply IsS98.far (hne := NB0_173.out)) | exact HI0.out)) hb); have n2_ := aA.mk (bE (g := gb173) (o := .cells #[.int .i64 0, .int .i64 0, .int .i64 0, .int .i64 0, .int .i64 0] 27 (0, 0)) (by (with_reducible repeat (first | refine aJ ?_ _ | refine aM ?_ | refine aK ?_ _)); exact BK173.out) hb); have n3_ := aA.mk (KeepBut.trans (by repeat (first | (with_reducible first | exact HK.out | apply KeepBut.set_ | apply bF | apply bJ | apply bG | refine keep_far ?_ GW173.out _) | exact HK.out)) (KeepBut.of_below hb g none) (.inl rfl)); have n4_ := aA.mk (aX (by repeat (first | (with_reducible first | exact HB.out | apply aH | apply aE | apply aG | refine aN ?_ (IsS98.ge HI0.out) | refine aN ?_ GE173.out) | exact HB.out)) hb); have n5_ := aA.mk (hbox); have n6_ := aA.mk ((by rw [hg]; exact (keep_size (w := w) (g := g) (row := none) (by repeat (first | (with_reducible first | exact HK.out | apply KeepBut.set_ | apply bF | apply bJ | apply bG | refine keep_far ?_ GW173.out _) | exact HK.out))) : w.heap.size ≤ gb186)); have n7_ := aA.mk ((Nat.le_trans HW0.out (by rw [hg]; exact (keep_size (w := w) (g := g) (row := none) (by repeat (first | (with_reducible first | exact HK.out | apply KeepBut.set_ | apply bF | apply bJ | apply bG | refine keep_far ?_ GW173.out _) | exact HK.out))) : w.heap.size ≤ gb186) : w0.heap.size ≤ gb186)); have n8_ := aA.mk ((by rw [hg]; exact Nat.ne_of_lt (blk_lt (g := gb173) (o := .cells #[.int .i64 0, .int .i64 0, .int .i64 0, .int .i64 0, .int .i64 0] 27 (0, 0)) (by (with_reducible repeat (first | refine aJ ?_ _ | refine aM ?_ | refine aK ?_ _)); exact BK173.out)) : gb173 ≠ gb186)); have n9_ := aA.mk ((by rw [hg]; exact Nat.ne_of_gt (blk_lt (g := gb173) (o := .cells #[.int .i64 0, .int .i64 0, .int .i64 0, .int .i64 0, .int .i64 0] 27 (0, 0)) (by (with_reducible repeat (first | refine aJ ?_ _ | refine aM ?_ | refine aK ?_ _)); exact BK173.out)) : gb186 ≠ gb173)); have n10_ := aA.mk ((by rw [hg]; exact Nat.ne_of_lt (IsS98.lt (show IsS98 w0 _ g s0_0 t184 t185 from by repeat (first | (with_reducible first | exact HI0.out | apply IsS98.alloc | apply IsS98.drewN | apply IsS98.drew | apply IsS98.set_1 | apply IsS98.set_2 | apply IsS98.far (hne := NB0_173.out)) | exact HI0.out))) : g ≠ gb186)); have n11_ := aA.mk ((by rw [hg]; exact Nat.ne_of_gt (IsS98.lt (show IsS98 w0 _ g s0_0 t184 t185 from by repeat (first | (with_reducible first | exact HI0.out | apply IsS98.alloc | apply IsS98.drewN | apply IsS98.drew | apply IsS98.set_1 | apply IsS98.set_2 | apply IsS98.far (hne := NB0_173.out)) | exact HI0.out))) : gb186 ≠ g)); clear HO182; clear HI0; clear BK173; clear HK; clear HB; have HO182 := n0_; have HI0 := n1_; have BK173 := n2_; have HK := n3_; have HB := n4_; have BK186 := n5_; have GW186 := n6_; have GE186 := n7_; have NB173_186 := n8_; have NB186_173 := n9_; have NB0_186 := n10_; have NB186_0 := n11_; clear n0_ n1_ n2_ n3_ n4_ n5_ n6_ n7_ n8_ n9_ n10_ n11_; clear hb hbox hg; have hnb16 := NB186_173.out; have hnc16 := NB173_186.out; have hnb17 := NB186_0.out; have hnc17 := NB0_186.out; have hcz18_0 : w15.cell? ⟨gb186, 0, none⟩ = some (.int .i64 0) := (aC BK186.out 0).trans rfl; have hcz18_1 : w15.cell? ⟨gb186, 1, none⟩ = some (.int .i64 0) := (aC BK186.out 1).trans rfl; have hcz18_2 : w15.cell? ⟨gb186, 2, none⟩ = some (.int .i64 0) := (aC BK186.out 2).trans rfl; have hcz18_3 : w15.cell? ⟨gb186, 3, none⟩ = some (.int .i64 0) := (aC BK186.out 3).trans rfl; have hcz18_4 : w15.cell? ⟨gb186, 4, none⟩ = some (.int .i64 0) := (aC BK186.out 4).trans rfl; have hfz18_0 := aD BK186.out 0; have hfz18_1 := aD BK186.out 1; have hfz18_2 := aD BK186.out 2; have hfz18_3 := aD BK186.out 3; have hfz18_4 := aD BK186.out 4) | ((with_reducible refine bK (f := 69) rfl ?_); refine goesL_ (some 17) rfl rfl Try.func69 (by kernel_rfl) rfl #[.pointer (some ⟨g, 0, none⟩), .int .i64 24] rfl (by (try simp only [List.map_toArray, List.map_cons, List.map_nil]); first | done | rfl | (simp only [List.length_drop, List.length_take]; rfl)) ?_; (with_reducible refine (spec_l1Below.calls g s0_0 t184 t185 24 t187 t188 t189 w0 _ ?side1 ?side2 A6.out).mono ?_); (case side1 => repeat (first | (with_reducible first | exact HI0.out | apply IsS98.alloc | apply IsS98.drewN | apply IsS98.drew | apply IsS98.set_1 | apply IsS98.set_2 | apply IsS98.far (hne := NB0_173.out) | apply IsS98.far (hne := NB0_186.out)) | exact HI0.out)); (case side2 => repeat (first | (with_reducible first | exact HB.out | apply aH | apply aE | apply aG | refine aN ?_ (IsS98.ge HI0.out) | refine aN ?_ GE173.out | refine aN ?_ GE186.out) | exact HB.out)); rintro e w19 ⟨rfl, hi, hb, hk⟩; refine ⟨_, rfl, ?_⟩; have n0_ := aA.mk (KeepBut.blk hk (g' := gb173) (o := .cells #[.int .i64 0, .int .i64 0, .int .i64 0, .int .i64 0, .int .i64 0] 27 (0, 0)) (by (with_reducible repeat (first | refine aJ ?_ _ | refine aM ?_ | refine aK ?_ _)); refine blk_far ?_ NB173_186.out _; (with_reducible repeat (first | refine aJ ?_ _ | refine aM ?_ | refine aK ?_ _)); refine blk_far ?_ NB173_186.out _; (with_reducible repeat (first | refine aJ ?_ _ | refine aM ?_ | refine aK ?_ _)); refine blk_far ?_ NB173_186.out _; (with_reducible repeat (first | refine aJ ?_ _ | refine aM ?_ | refine aK ?_ _)); refine blk_far ?_ NB173_186.out _; (with_reducible repeat (first | refine aJ ?_ _ | refine aM ?_ | refine aK ?_ _)); refine blk_far ?_ NB173_186.out _; (with_reducible repeat (first | refine aJ ?_ _ | refine aM ?_ | refine aK ?_ _)); exact BK173.out) NB173_0.out (by simp)); have n1_ := aA.mk (Kd.R_mono (Kd.R_keep (IsS98.apart (show IsS98 w0 _ g s0_0 t184 t185 from by repeat (first | (with_reducible first | exact HI0.out | apply IsS98.alloc | apply IsS98.drewN | apply IsS98.drew | apply IsS98.set_1 | apply IsS98.set_2 | apply IsS98.far (hne := NB0_173.out) | apply IsS98.far (hne := NB0_186.out)) | exact HI0.out)) (by (with_reducible repeat (first | apply Kd.bC | apply Kd.bD | apply Kd.aY)); exact (Kd.R_mono (Kd.R_far (p := ⟨gb186, 4, none⟩) (Kd.R_far (p := ⟨gb186, 3, none⟩) (Kd.R_far (p := ⟨gb186, 2, none⟩) (Kd.R_far (p := ⟨gb186, 1, none⟩) (Kd.R_far (p := ⟨gb186, 0, none⟩) (Kd.R_types HO182.out BK186.out (by decide)) (fun _ hk => hk.2) (.int .i64 t174)) (fun _ hk => hk.2) (.int .i64 (wrap64 (1 + t177)))) (fun _ hk => hk.2) (.int .i64 t183)) (fun _ hk => hk.2) (.int .i64 0)) (fun _ hk => hk.2) (.int .i64 0)) (fun _ h_ => h_.1))) (by decide)) hk (fun _ h => h.2)) (fun _ h => h.1)); have n2_ := aA.mk (KeepBut.blk hk (g' := gb186) (o := .cells #[.int .i64 t174, .int .i64 (wrap64 (1 + t177)), .int .i64 t183, .int .i64 0, .int .i64 0] 27 (0, 0)) (by (with_reducible repeat (first | refine aJ ?_ _ | refine aM ?_ | refine aK ?_ _)); refine aZ (cs := #[.int .i64 t174, .int .i64 (wrap64 (1 + t177)), .int .i64 t183, .int .i64 0, .int .i64 0]) ?_ 4 _ rfl; (with_reducible repeat (first | refine aJ ?_ _ | refine aM ?_ | refine aK ?_ _)); refine aZ (cs := #[.int .i64 t174, .int .i64 (wrap64 (1 + t177)), .int .i64 t183, .int .i64 0, .int .i64 0]) ?_ 3 _ rfl; (with_reducible repeat (first | refine aJ ?_ _ | refine aM ?_ | refine aK ?_ _)); refine aZ (cs := #[.int .i64 t174, .int .i64 (wrap64 (1 + t177)), .int .i64 0, .int .i64 0, .int .i64 0]) ?_ 2 _ rfl; (with_reducible repeat (first | refine aJ ?_ _ | refine aM ?_ | refine aK ?_ _)); refine aZ (cs := #[.int .i64 t174, .int .i64 0, .int .i64 0, .int .i64 0, .int .i64 0]) ?_ 1 _ rfl; (with_reducible repeat (first | refine aJ ?_ _ | refine aM ?_ | refine aK ?_ _)); refine aZ (cs := #[.int .i64 0, .int .i64 0, .int .i64 0, .int .i64 0, .int .i64 0]) ?_ 0 _ rfl; (with_reducible repeat (first | refine aJ ?_ _ | refine aM ?_ | refine aK ?_ _)); exact BK186.out) NB186_0.out (by simp)); have n3_ := aA.mk (KeepBut.trans (by repeat (first | (with_reducible first | exact HK.out | apply KeepBut.set_ | apply bF | apply bJ | apply bG | refine keep_far ?_ GW173.out _ | refine keep_far ?_ GW186.out _) | exact HK.out)) hk (.inl rfl)); have n4_ := aA.mk (hb); have n5_ := aA.mk (hi); clear BK173; clear HO182; clear BK186; clear HK; clear HB; clear HI0; have BK173 := n0_; have HO182 := n1_; have BK186 := n2_; have HK := n3_; have HB := n4_; have HI0 := n5_; clear n0_ n1_ n2_ n3_ n4_ n5_; (try clear hb); (try clear hk); (try clear hi); have hcz20_0 : w19.cell? ⟨gb186, 0, none⟩ = some (.int .i64 t174) := (aC BK186.out 0).trans rfl; have hcz20_1 : w19.cell? ⟨gb186, 1, none⟩ = some (.int .i64 (wrap64 (1 + t177))) := (aC BK186.out 1).trans rfl; have hcz20_2 : w19.cell? ⟨gb186, 2, none⟩ = some (.int .i64 t183) := (aC BK186.out 2).trans rfl; have hcz20_3 : w19.cell? ⟨gb186, 3, none⟩ = some (.int .i64 0) := (aC BK186.out 3).trans rfl; have hcz20_4 : w19.cell? ⟨gb186, 4, none⟩ = some (.int .i64 0) := (aC BK186.out 4).trans rfl; have hfz20_0 := aD BK186.out 0; have hfz20_1 := aD BK186.out 1; have hfz20_2 := aD BK186.out 2; have hfz20_3 := aD BK186.out 3; have hfz20_4 := aD BK186.out 4) | ((with_reducible refine bL (N := 20) rfl ?_); refine Kd.R_lit (Kd.int .i64) _ 3 ?hg (N := 20) ?hd (xs := ([0, 1, 256, 999] : List Int)) (inner := [.int .i64 0, .int .i64 1, .int .i64 256, .int .i64 999]) (ok := fun _ => True) (okp := fun _ => True) ?hr ?hp (fun _ hk => hk) trivial (Below.refl _ _) (Nat.le_refl _) (by simp) ?_; (case hd => rfl); (case hg => rfl); (case hr => first | (go_simp; done) | (go_simp; rfl)); (case hp => exact (Reps.one (show Kd.M (Kd.int .i64) _ _ _ 0 [.int .i64 0] from rfl) (Reps.one (show Kd.M (Kd.int .i64) _ _ _ 1 [.int .i64 1] from rfl) (Reps.one (show Kd.M (Kd.int .i64) _ _ _ 256 [.int .i64 256] from rfl) (Reps.one (show Kd.M (Kd.int .i64) _ _ _ 999 [.int .i64 999] from rfl) (Reps.none _ _)))))); intro v191 w21 ho22 hb hg_ hnew_; clear hg_ hnew_; (first | rw [← Ny190.out] at ho22 | (simp only [Int.reduceToNat] at ho22; rw [← Ny190.out] at ho22)); have n0_ := aA.mk (Kd.R_elder' (by (with_reducible repeat (first | apply Kd.bC | apply Kd.bD | apply Kd.aY)); exact (Kd.R_mono (Kd.R_far (p := ⟨gb186, 3, none⟩) (Kd.R_types HO182.out BK186.out (by decide)) (fun _ hk => hk.2) (.int .i64 t187)) (fun _ h_ => h_.1))) (Kd.R_base ho22) hb); have n1_ := aA.mk (Kd.R_lower (Kd.R_new' ho22 (Kd.R_lt (by (with_reducible repeat (first | apply Kd.bC | apply Kd.bD | apply Kd.aY)); exact (Kd.R_mono (Kd.R_far (p := ⟨gb186, 3, none⟩) (Kd.R_types HO182.out BK186.out (by decide)) (fun _ hk => hk.2) (.int .i64 t187)) (fun _ h_ => h_.1))))) (keep_size (w := w) (g := g) (row := none) (by repeat (first | (with_reducible first | exact HK.out | apply KeepBut.set_ | apply bF | apply bJ | apply bG | refine keep_far ?_ GW173.out _ | refine keep_far ?_ GW186.out _) | exact HK.out)))); have n2_ := aA.mk (IsS98.below (show IsS98 w0 (w19.setCell ⟨gb186, 3, none⟩ (.int .i64 t187)) g s0_0 t188 t189 from by repeat (first | (with_reducible first | exact HI0.out | apply IsS98.alloc | apply IsS98.drewN | apply IsS98.drew | apply IsS98.set_1 | apply IsS98.set_2 | apply IsS98.far (hne := NB0_173.out) | apply IsS98.far (hne := NB0_186.out)) | exact HI0.out)) hb); have n3_ := aA.mk (bE (g := gb173) (o := .cells #[.int .i64 0, .int .i64 0, .int .i64 0, .int .i64 0, .int .i64 0] 27 (0, 0)) (by (with_reducible repeat (first | refine aJ ?_ _ | refine aM ?_ | refine aK ?_ _)); refine blk_far ?_ NB173_186.out _; (with_reducible repeat (first | refine aJ ?_ _ | refine aM ?_ | refine aK ?_ _)); exact BK173.out) hb); have n4_ := aA.mk (bE (g := gb186) (o := .cells #[.int .i64 t174, .int .i64 (wrap64 (1 + t177)), .int .i64 t183, .int .i64 t187, .int .i64 0] 27 (0, 0)) (by (with_reducible repeat (first | refine aJ ?_ _ | refine aM ?_ | refine aK ?_ _)); refine aZ (cs := #[.int .i64 t174, .int .i64 (wrap64 (1 + t177)), .int .i64 t183, .int .i64 0, .int .i64 0]) ?_ 3 _ rfl; (with_reducible repeat (first | refine aJ ?_ _ | refine aM ?_ | refine aK ?_ _)); exact BK186.out) hb); have n5_ := aA.mk (KeepBut.trans (by repeat (first | (with_reducible first | exact HK.out | apply KeepBut.set_ | apply bF | apply bJ | apply bG | refine keep_far ?_ GW173.out _ | refine keep_far ?_ GW186.out _) | exact HK.out)) (KeepBut.of_below hb g none) (.inl rfl)); have n6_ := aA.mk (aX (by repeat (first | (with_reducible first | exact HB.out | apply aH | apply aE | apply aG | refine aN ?_ (IsS98.ge HI0.out) | refine aN ?_ GE173.out | refine aN ?_ GE186.out) | exact HB.out)) hb); clear HO182; clear HI0; clear BK173; clear BK186; clear HK; clear HB; have HO182 := n0_; have HO192 := n1_; have HI0 := n2_; have BK173 := n3_; have BK186 := n4_; have HK := n5_; have HB := n6_; clear n0_ n1_ n2_ n3_ n4_ n5_ n6_; clear hb ho22; obtain ⟨Ao23, co23, eo23⟩ := Kd.R_slice HO192.out; subst eo23) | ((with_reducible refine bK (f := 87) rfl ?_); refine goesL_ (some 21) rfl rfl Try.func87 (by kernel_rfl) rfl #[.pointer (some ⟨g, 0, none⟩), .slice Ao23 y190.length co23] rfl (by (try simp only [List.map_toArray, List.map_cons, List.map_nil]); first | done | rfl | (simp only [List.length_drop, List.length_take]; rfl)) ?_; (with_reducible refine (spec_l1Int.calls g s0_0 t188 t189 _ _ y190 t193 t194 t195 w0 _ ?side1 ?side2 ?side3 ?side4 ?side5 A7.out).mono ?_); (case side1 => repeat (first | (with_reducible first | exact HI0.out | apply IsS98.alloc | apply IsS98.drewN | apply IsS98.drew | apply IsS98.set_1 | apply IsS98.set_2 | apply IsS98.far (hne := NB0_173.out) | apply IsS98.far (hne := NB0_186.out)) | exact HI0.out)); (case side2 => repeat (first | (with_reducible first | exact HB.out | apply aH | apply aE | apply aG | refine aN ?_ (IsS98.ge HI0.out) | refine aN ?_ GE173.out | refine aN ?_ GE186.out) | exact HB.out)); (case side3 => repeat (first | exact (Kd.R_reads' HO192.out).2.2 | (with_reducible refine Kd.C_alloc ?_ _) | (with_reducible refine Kd.C_drewN ?_ _) | (with_reducible refine Kd.C_drew ?_))); (case side4 => exact (Kd.R_reads' HO192.out).2.1); (case side5 => exact far_slice (IsS98.own_ne HI0.out HO192.out (by decide))); rintro e w24 ⟨rfl, hi, hb, hk⟩; refine ⟨_, rfl, ?_⟩; have n0_ := aA.mk (KeepBut.blk hk (g' := gb173) (o := .cells #[.int .i64 0, .int .i64 0, .int .i64 0, .int .i64 0, .int .i64 0] 27 (0, 0)) (by (with_reducible repeat (first | refine aJ ?_ _ | refine aM ?_ | refine aK ?_ _)); exact BK173.out) NB173_0.out (by simp)); have n1_ := aA.mk (Kd.R_mono (Kd.R_keep (IsS98.apart (show IsS98 w0 _ g s0_0 t188 t189 from by repeat (first | (with_reducible first | exact HI0.out | apply IsS98.alloc | apply IsS98.drewN | apply IsS98.drew | apply IsS98.set_1 | apply IsS98.set_2 | apply IsS98.far (hne := NB0_173.out) | apply IsS98.far (hne := NB0_186.out)) | exact HI0.out)) (by (with_reducible repeat (first | apply Kd.bC | apply Kd.bD | apply Kd.aY)); exact HO182.out) (by decide)) hk (fun _ h => h.2)) (fun _ h => h.1)); have n2_ := aA.mk (KeepBut.blk hk (g' := gb186) (o := .cells #[.int .i64 t174, .int .i64 (wrap64 (1 + t177)), .int .i64 t183, .int .i64 t187, .int .i64 0] 27 (0, 0)) (by (with_reducible repeat (first | refine aJ ?_ _ | refine aM ?_ | refine aK ?_ _)); exact BK186.out) NB186_0.out (by simp)); have n3_ := aA.mk (Kd.R_mono (Kd.R_keep (IsS98.apart (show IsS98 w0 _ g s0_0 t188 t189 from by repeat (first | (with_reducible first | exact HI0.out | apply IsS98.alloc | apply IsS98.drewN | apply IsS98.drew | apply IsS98.set_1 | apply IsS98.set_2 | apply IsS98.far (hne := NB0_173.out) | apply IsS98.far (hne := NB0_186.out)) | exact HI0.out)) (by (with_reducible repeat (first | apply Kd.bC | apply Kd.bD | apply Kd.aY)); exact HO192.out) (by decide)) hk (fun _ h => h.2)) (fun _ h => h.1)); have n4_ := aA.mk (KeepBut.trans (by repeat (first | (with_reducible first | exact HK.out | apply KeepBut.set_ | apply bF | apply bJ | apply bG | refine keep_far ?_ GW173.out _ | refine keep_far ?_ GW186.out _) | exact HK.out)) hk (.inl rfl)); have n5_ := aA.mk (hb); have n6_ := aA.mk (hi); clear BK173; clear HO182; clear BK186; clear HO192; clear HK; clear HB; clear HI0; have BK173 := n0_; have HO182 := n1_; have BK186 := n2_; have HO192 := n3_; have HK := n4_; have HB := n5_; have HI0 := n6_; clear n0_ n1_ n2_ n3_ n4_ n5_ n6_; (try clear hb); (try clear hk); (try clear hi); have hcz25_0 : w24.cell? ⟨gb186, 0, none⟩ = some (.int .i64 t174) := (aC BK186.out 0).trans rfl; have hcz25_1 : w24.cell? ⟨gb186, 1, none⟩ = some (.int .i64 (wrap64 (1 + t177))) := (aC BK186.out 1).trans rfl; have hcz25_2 : w24.cell? ⟨gb186, 2, none⟩ = some (.int .i64 t183) := (aC BK186.out 2).trans rfl; have hcz25_3 : w24.cell? ⟨gb186, 3, none⟩ = some (.int .i64 t187) := (aC BK186.out 3).trans rfl; have hcz25_4 : w24.cell? ⟨gb186, 4, none⟩ = some (.int .i64 0) := (aC BK186.out 4).trans rfl; have hfz25_0 := aD BK186.out 0; have hfz25_1 := aD BK186.out 1; have hfz25_2 := aD BK186.out 2; have hfz25_3 := aD BK186.out 3; have hfz25_4 := aD BK186.out 4; have hnb26 := NB173_0.out; have hnc26 := NB0_173.out; have hcz27_0 : w24.cell? ⟨gb173, 0, none⟩ = some (.int .i64 0) := (aC BK173.out 0).trans rfl; have hcz27_1 : w24.cell? ⟨gb173, 1, none⟩ = some (.int .i64 0) := (aC BK173.out 1).trans rfl; have hcz27_2 : w24.cell? ⟨gb173, 2, none⟩ = some (.int .i64 0) := (aC BK173.out 2).trans rfl; have hcz27_3 : w24.cell? ⟨gb173, 3, none⟩ = some (.int .i64 0) := (aC BK173.out 3).trans rfl; have hcz27_4 : w24.cell? ⟨gb173, 4, none⟩ = some (.int .i64 0) := (aC BK173.out 4).trans rfl; have hfz27_0 := aD BK173.out 0; have hfz27_1 := aD BK173.out 1; have hfz27_2 := aD BK173.out 2; have hfz27_3 := aD BK173.out 3; have hfz27_4 := aD BK173.out 4))
  refine bodyPost_ret (results_cell_row rfl _ _ gb173 27 #[.int .i64 t174, .int .i64 (wrap64 (1 + t177)), .int .i64 t183, .int .i64 t187, .int .i64 t193] (0, 0) _ rfl (by (with_reducible repeat (first | refine aJ ?_ _ | refine aM ?_ | refine aK ?_ _)); refine aZ (cs := #[.int .i64 t174, .int .i64 (wrap64 (1 + t177)), .int .i64 t183, .int .i64 t187, .int .i64 0]) ?_ 4 _ rfl; (with_reducible repeat (first | refine aJ ?_ _ | refine aM ?_ | refine aK ?_ _)); refine aZ (cs := #[.int .i64 t174, .int .i64 (wrap64 (1 + t177)), .int .i64 t183, .int .i64 0, .int .i64 0]) ?_ 3 _ rfl; (with_reducible repeat (first | refine aJ ?_ _ | refine aM ?_ | refine aK ?_ _)); refine aZ (cs := #[.int .i64 t174, .int .i64 (wrap64 (1 + t177)), .int .i64 0, .int .i64 0, .int .i64 0]) ?_ 2 _ rfl; (with_reducible repeat (first | refine aJ ?_ _ | refine aM ?_ | refine aK ?_ _)); refine aZ (cs := #[.int .i64 t174, .int .i64 0, .int .i64 0, .int .i64 0, .int .i64 0]) ?_ 1 _ rfl; (with_reducible repeat (first | refine aJ ?_ _ | refine aM ?_ | refine aK ?_ _)); refine aZ (cs := #[.int .i64 0, .int .i64 0, .int .i64 0, .int .i64 0, .int .i64 0]) ?_ 0 _ rfl; (with_reducible repeat (first | refine aJ ?_ _ | refine aM ?_ | refine aK ?_ _)); refine blk_far ?_ NB173_186.out _; (with_reducible repeat (first | refine aJ ?_ _ | refine aM ?_ | refine aK ?_ _)); exact BK173.out) Try.underlying27 rfl (by kernel_rfl)) rfl ?_
  exact ⟨by first | rfl | (simp [errW_none, errW_some] <;> rfl) | (simp [*, errW_none, errW_some] <;> rfl), by repeat (first | (with_reducible first | exact HI0.out | apply IsS98.alloc | apply IsS98.drewN | apply IsS98.drew | apply IsS98.set_1 | apply IsS98.set_2 | apply IsS98.far (hne := NB0_173.out) | apply IsS98.far (hne := NB0_186.out)) | exact HI0.out), by repeat (first | (with_reducible first | exact HB.out | apply aH | apply aE | apply aG | refine aN ?_ (IsS98.ge HI0.out) | refine aN ?_ GE173.out | refine aN ?_ GE186.out) | exact HB.out), by repeat (first | (with_reducible first | exact HK.out | apply KeepBut.set_ | apply bF | apply bJ | apply bG | refine keep_far ?_ GW173.out _ | refine keep_far ?_ GW186.out _) | exact HK.out)⟩
 ·rw [if_neg c5] at H
  have c5b0 : (t183 == 1) = false := beq_eq_false_iff_ne.mpr c5
  have c5b1 : (t183 != 1) = true := bne_iff_ne.mpr c5
  simp only [Option.some.injEq, Prod.mk.injEq] at H
  obtain ⟨rfl, rfl, rfl, rfl, rfl, rfl, rfl⟩ := H
  go_enter Try.func72, Try.ntmps72
  go_wp2_with (first | ((with_reducible refine bL (N := 2) rfl ?_); refine bM ?hg (N := 2) ?hd (cs := #[.int .i64 0, .int .i64 0, .int .i64 0, .int .i64 0, .int .i64 0]) (t := 27) ?hr ?_; (case hd => rfl); (case hg => rfl); (case hr => first | (go_simp; done) | (go_simp; rfl)); intro gb173 hg w28 hbox hb; have n0_ := aA.mk (IsS98.below (by repeat (first | (with_reducible first | exact HI0.out | apply IsS98.alloc | apply IsS98.drewN | apply IsS98.drew | apply IsS98.set_1 | apply IsS98.set_2) | exact HI0.out)) hb); have n1_ := aA.mk (KeepBut.trans (by repeat (first | (with_reducible first | exact HK.out | apply KeepBut.set_ | apply bF | apply bJ | apply bG) | exact HK.out)) (KeepBut.of_below hb g none) (.inl rfl)); have n2_ := aA.mk (aX (by repeat (first | (with_reducible first | exact HB.out | apply aH | apply aE | apply aG | refine aN ?_ (IsS98.ge HI0.out)) | exact HB.out)) hb); have n3_ := aA.mk (hbox); have n4_ := aA.mk ((by rw [hg]; exact (keep_size (w := w) (g := g) (row := none) (by repeat (first | (with_reducible first | exact HK.out | apply KeepBut.set_ | apply bF | apply bJ | apply bG) | exact HK.out))) : w.heap.size ≤ gb173)); have n5_ := aA.mk ((Nat.le_trans HW0.out (by rw [hg]; exact (keep_size (w := w) (g := g) (row := none) (by repeat (first | (with_reducible first | exact HK.out | apply KeepBut.set_ | apply bF | apply bJ | apply bG) | exact HK.out))) : w.heap.size ≤ gb173) : w0.heap.size ≤ gb173)); have n6_ := aA.mk ((by rw [hg]; exact Nat.ne_of_lt (IsS98.lt (show IsS98 w0 _ g s0_0 s0_1 s0_2 from by repeat (first | (with_reducible first | exact HI0.out | apply IsS98.alloc | apply IsS98.drewN | apply IsS98.drew | apply IsS98.set_1 | apply IsS98.set_2) | exact HI0.out))) : g ≠ gb173)); have n7_ := aA.mk ((by rw [hg]; exact Nat.ne_of_gt (IsS98.lt (show IsS98 w0 _ g s0_0 s0_1 s0_2 from by repeat (first | (with_reducible first | exact HI0.out | apply IsS98.alloc | apply IsS98.drewN | apply IsS98.drew | apply IsS98.set_1 | apply IsS98.set_2) | exact HI0.out))) : gb173 ≠ g)); clear HI0; clear HK; clear HB; have HI0 := n0_; have HK := n1_; have HB := n2_; have BK173 := n3_; have GW173 := n4_; have GE173 := n5_; have NB0_173 := n6_; have NB173_0 := n7_; clear n0_ n1_ n2_ n3_ n4_ n5_ n6_ n7_; clear hb hbox hg) | ((with_reducible refine bK (f := 69) rfl ?_); refine goesL_ (some 5) rfl rfl Try.func69 (by kernel_rfl) rfl #[.pointer (some ⟨g, 0, none⟩), .int .i64 4] rfl (by (try simp only [List.map_toArray, List.map_cons, List.map_nil]); first | done | rfl | (simp only [List.length_drop, List.length_take]; rfl)) ?_; (with_reducible refine (spec_l1Below.calls g s0_0 s0_1 s0_2 4 t174 t175 t176 w0 _ ?side1 ?side2 A2.out).mono ?_); (case side1 => repeat (first | (with_reducible first | exact HI0.out | apply IsS98.alloc | apply IsS98.drewN | apply IsS98.drew | apply IsS98.set_1 | apply IsS98.set_2 | apply IsS98.far (hne := NB0_173.out)) | exact HI0.out)); (case side2 => repeat (first | (with_reducible first | exact HB.out | apply aH | apply aE | apply aG | refine aN ?_ (IsS98.ge HI0.out) | refine aN ?_ GE173.out) | exact HB.out)); rintro e w29 ⟨rfl, hi, hb, hk⟩; refine ⟨_, rfl, ?_⟩; have n0_ := aA.mk (KeepBut.blk hk (g' := gb173) (o := .cells #[.int .i64 0, .int .i64 0, .int .i64 0, .int .i64 0, .int .i64 0] 27 (0, 0)) (by (with_reducible repeat (first | refine aJ ?_ _ | refine aM ?_ | refine aK ?_ _)); exact BK173.out) NB173_0.out (by simp)); have n1_ := aA.mk (KeepBut.trans (by repeat (first | (with_reducible first | exact HK.out | apply KeepBut.set_ | apply bF | apply bJ | apply bG | refine keep_far ?_ GW173.out _) | exact HK.out)) hk (.inl rfl)); have n2_ := aA.mk (hb); have n3_ := aA.mk (hi); clear BK173; clear HK; clear HB; clear HI0; have BK173 := n0_; have HK := n1_; have HB := n2_; have HI0 := n3_; clear n0_ n1_ n2_ n3_; (try clear hb); (try clear hk); (try clear hi)) | ((with_reducible refine bK (f := 69) rfl ?_); refine goesL_ (some 7) rfl rfl Try.func69 (by kernel_rfl) rfl #[.pointer (some ⟨g, 0, none⟩), .int .i64 5] rfl (by (try simp only [List.map_toArray, List.map_cons, List.map_nil]); first | done | rfl | (simp only [List.length_drop, List.length_take]; rfl)) ?_; (with_reducible refine (spec_l1Below.calls g s0_0 t175 t176 5 t177 t178 t179 w0 _ ?side1 ?side2 A3.out).mono ?_); (case side1 => repeat (first | (with_reducible first | exact HI0.out | apply IsS98.alloc | apply IsS98.drewN | apply IsS98.drew | apply IsS98.set_1 | apply IsS98.set_2 | apply IsS98.far (hne := NB0_173.out)) | exact HI0.out)); (case side2 => repeat (first | (with_reducible first | exact HB.out | apply aH | apply aE | apply aG | refine aN ?_ (IsS98.ge HI0.out) | refine aN ?_ GE173.out) | exact HB.out)); rintro e w30 ⟨rfl, hi, hb, hk⟩; refine ⟨_, rfl, ?_⟩; have n0_ := aA.mk (KeepBut.blk hk (g' := gb173) (o := .cells #[.int .i64 0, .int .i64 0, .int .i64 0, .int .i64 0, .int .i64 0] 27 (0, 0)) (by (with_reducible repeat (first | refine aJ ?_ _ | refine aM ?_ | refine aK ?_ _)); exact BK173.out) NB173_0.out (by simp)); have n1_ := aA.mk (KeepBut.trans (by repeat (first | (with_reducible first | exact HK.out | apply KeepBut.set_ | apply bF | apply bJ | apply bG | refine keep_far ?_ GW173.out _) | exact HK.out)) hk (.inl rfl)); have n2_ := aA.mk (hb); have n3_ := aA.mk (hi); clear BK173; clear HK; clear HB; clear HI0; have BK173 := n0_; have HK := n1_; have HB := n2_; have HI0 := n3_; clear n0_ n1_ n2_ n3_; (try clear hb); (try clear hk); (try clear hi)) | ((with_reducible refine bL (N := 10) rfl ?_); refine Kd.R_lit (Kd.int .i64) _ 3 ?hg (N := 10) ?hd (xs := ([0, 1, 1, 1, 2] : List Int)) (inner := [.int .i64 0, .int .i64 1, .int .i64 1, .int .i64 1, .int .i64 2]) (ok := fun _ => True) (okp := fun _ => True) ?hr ?hp (fun _ hk => hk) trivial (Below.refl _ _) (Nat.le_refl _) (by simp) ?_; (case hd => rfl); (case hg => rfl); (case hr => first | (go_simp; done) | (go_simp; rfl)); (case hp => exact (Reps.one (show Kd.M (Kd.int .i64) _ _ _ 0 [.int .i64 0] from rfl) (Reps.one (show Kd.M (Kd.int .i64) _ _ _ 1 [.int .i64 1] from rfl) (Reps.one (show Kd.M (Kd.int .i64) _ _ _ 1 [.int .i64 1] from rfl) (Reps.one (show Kd.M (Kd.int .i64) _ _ _ 1 [.int .i64 1] from rfl) (Reps.one (show Kd.M (Kd.int .i64) _ _ _ 2 [.int .i64 2] from rfl) (Reps.none _ _))))))); intro v181 w31 ho32 hb hg_ hnew_; clear hg_ hnew_; (first | rw [← Ny180.out] at ho32 | (simp only [Int.reduceToNat] at ho32; rw [← Ny180.out] at ho32)); have n0_ := aA.mk (Kd.R_lower ho32 (keep_size (w := w) (g := g) (row := none) (by repeat (first | (with_reducible first | exact HK.out | apply KeepBut.set_ | apply bF | apply bJ | apply bG | refine keep_far ?_ GW173.out _) | exact HK.out)))); have n1_ := aA.mk (IsS98.below (by repeat (first | (with_reducible first | exact HI0.out | apply IsS98.alloc | apply IsS98.drewN | apply IsS98.drew | apply IsS98.set_1 | apply IsS98.set_2 | apply IsS98.far (hne := NB0_173.out)) | exact HI0.out)) hb); have n2_ := aA.mk (bE (g := gb173) (o := .cells #[.int .i64 0, .int .i64 0, .int .i64 0, .int .i64 0, .int .i64 0] 27 (0, 0)) (by (with_reducible repeat (first | refine aJ ?_ _ | refine aM ?_ | refine aK ?_ _)); exact BK173.out) hb); have n3_ := aA.mk (KeepBut.trans (by repeat (first | (with_reducible first | exact HK.out | apply KeepBut.set_ | apply bF | apply bJ | apply bG | refine keep_far ?_ GW173.out _) | exact HK.out)) (KeepBut.of_below hb g none) (.inl rfl)); have n4_ := aA.mk (aX (by repeat (first | (with_reducible first | exact HB.out | apply aH | apply aE | apply aG | refine aN ?_ (IsS98.ge HI0.out) | refine aN ?_ GE173.out) | exact HB.out)) hb); clear HI0; clear BK173; clear HK; clear HB; have HO182 := n0_; have HI0 := n1_; have BK173 := n2_; have HK := n3_; have HB := n4_; clear n0_ n1_ n2_ n3_ n4_; clear hb ho32; obtain ⟨Ao33, co33, eo33⟩ := Kd.R_slice HO182.out; subst eo33) | ((with_reducible refine bK (f := 87) rfl ?_); refine goesL_ (some 11) rfl rfl Try.func87 (by kernel_rfl) rfl #[.pointer (some ⟨g, 0, none⟩), .slice Ao33 y180.length co33] rfl (by (try simp only [List.map_toArray, List.map_cons, List.map_nil]); first | done | rfl | (simp only [List.length_drop, List.length_take]; rfl)) ?_; (with_reducible refine (spec_l1Int.calls g s0_0 t178 t179 _ _ y180 t183 t184 t185 w0 _ ?side1 ?side2 ?side3 ?side4 ?side5 A4.out).mono ?_); (case side1 => repeat (first | (with_reducible first | exact HI0.out | apply IsS98.alloc | apply IsS98.drewN | apply IsS98.drew | apply IsS98.set_1 | apply IsS98.set_2 | apply IsS98.far (hne := NB0_173.out)) | exact HI0.out)); (case side2 => repeat (first | (with_reducible first | exact HB.out | apply aH | apply aE | apply aG | refine aN ?_ (IsS98.ge HI0.out) | refine aN ?_ GE173.out) | exact HB.out)); (case side3 => repeat (first | exact (Kd.R_reads' HO182.out).2.2 | (with_reducible refine Kd.C_alloc ?_ _) | (with_reducible refine Kd.C_drewN ?_ _) | (with_reducible refine Kd.C_drew ?_))); (case side4 => exact (Kd.R_reads' HO182.out).2.1); (case side5 => exact far_slice (IsS98.own_ne HI0.out HO182.out (by decide))); rintro e w34 ⟨rfl, hi, hb, hk⟩; refine ⟨_, rfl, ?_⟩; have n0_ := aA.mk (KeepBut.blk hk (g' := gb173) (o := .cells #[.int .i64 0, .int .i64 0, .int .i64 0, .int .i64 0, .int .i64 0] 27 (0, 0)) (by (with_reducible repeat (first | refine aJ ?_ _ | refine aM ?_ | refine aK ?_ _)); exact BK173.out) NB173_0.out (by simp)); have n1_ := aA.mk (Kd.R_mono (Kd.R_keep (IsS98.apart (show IsS98 w0 _ g s0_0 t178 t179 from by repeat (first | (with_reducible first | exact HI0.out | apply IsS98.alloc | apply IsS98.drewN | apply IsS98.drew | apply IsS98.set_1 | apply IsS98.set_2 | apply IsS98.far (hne := NB0_173.out)) | exact HI0.out)) (by (with_reducible repeat (first | apply Kd.bC | apply Kd.bD | apply Kd.aY)); exact HO182.out) (by decide)) hk (fun _ h => h.2)) (fun _ h => h.1)); have n2_ := aA.mk (KeepBut.trans (by repeat (first | (with_reducible first | exact HK.out | apply KeepBut.set_ | apply bF | apply bJ | apply bG | refine keep_far ?_ GW173.out _) | exact HK.out)) hk (.inl rfl)); have n3_ := aA.mk (hb); have n4_ := aA.mk (hi); clear BK173; clear HO182; clear HK; clear HB; clear HI0; have BK173 := n0_; have HO182 := n1_; have HK := n2_; have HB := n3_; have HI0 := n4_; clear n0_ n1_ n2_ n3_ n4_; (try clear hb); (try clear hk); (try clear hi)) | ((with_reducible refine bL (N := 3) rfl ?_); refine bM ?hg (N := 3) ?hd (cs := #[.int .i64 0, .int .i64 0, .int .i64 0, .int .i64 0, .int .i64 0]) (t := 27) ?hr ?_; (case hd => rfl); (case hg => rfl); (case hr => first | (go_simp; done) | (go_simp; rfl)); intro gb186 hg w35 hbox hb; have n0_ := aA.mk (Kd.bB (by (with_reducible repeat (first | apply Kd.bC | apply Kd.bD | apply Kd.aY)); exact HO182.out) hb); have n1_ := aA.mk (IsS98.below (by repeat (first | (with_reducible first | exact HI0.out | apply IsS98.alloc | apply IsS98.drewN | apply IsS98.drew | apply IsS98.set_1 | apply IsS98.set_2 | apply IsS98.far (hne := NB0_173.out)) | exact HI0.out)) hb); have n2_ := aA.mk (bE (g := gb173) (o := .cells #[.int .i64 0, .int .i64 0, .int .i64 0, .int .i64 0, .int .i64 0] 27 (0, 0)) (by (with_reducible repeat (first | refine aJ ?_ _ | refine aM ?_ | refine aK ?_ _)); exact BK173.out) hb); have n3_ := aA.mk (KeepBut.trans (by repeat (first | (with_reducible first | exact HK.out | apply KeepBut.set_ | apply bF | apply bJ | apply bG | refine keep_far ?_ GW173.out _) | exact HK.out)) (KeepBut.of_below hb g none) (.inl rfl)); have n4_ := aA.mk (aX (by repeat (first | (with_reducible first | exact HB.out | apply aH | apply aE | apply aG | refine aN ?_ (IsS98.ge HI0.out) | refine aN ?_ GE173.out) | exact HB.out)) hb); have n5_ := aA.mk (hbox); have n6_ := aA.mk ((by rw [hg]; exact (keep_size (w := w) (g := g) (row := none) (by repeat (first | (with_reducible first | exact HK.out | apply KeepBut.set_ | apply bF | apply bJ | apply bG | refine keep_far ?_ GW173.out _) | exact HK.out))) : w.heap.size ≤ gb186)); have n7_ := aA.mk ((Nat.le_trans HW0.out (by rw [hg]; exact (keep_size (w := w) (g := g) (row := none) (by repeat (first | (with_reducible first | exact HK.out | apply KeepBut.set_ | apply bF | apply bJ | apply bG | refine keep_far ?_ GW173.out _) | exact HK.out))) : w.heap.size ≤ gb186) : w0.heap.size ≤ gb186)); have n8_ := aA.mk ((by rw [hg]; exact Nat.ne_of_lt (blk_lt (g := gb173) (o := .cells #[.int .i64 0, .int .i64 0, .int .i64 0, .int .i64 0, .int .i64 0] 27 (0, 0)) (by (with_reducible repeat (first | refine aJ ?_ _ | refine aM ?_ | refine aK ?_ _)); exact BK173.out)) : gb173 ≠ gb186)); have n9_ := aA.mk ((by rw [hg]; exact Nat.ne_of_gt (blk_lt (g := gb173) (o := .cells #[.int .i64 0, .int .i64 0, .int .i64 0, .int .i64 0, .int .i64 0] 27 (0, 0)) (by (with_reducible repeat (first | refine aJ ?_ _ | refine aM ?_ | refine aK ?_ _)); exact BK173.out)) : gb186 ≠ gb173)); have n10_ := aA.mk ((by rw [hg]; exact Nat.ne_of_lt (IsS98.lt (show IsS98 w0 _ g s0_0 t184 t185 from by repeat (first | (with_reducible first | exact HI0.out | apply IsS98.alloc | apply IsS98.drewN | apply IsS98.drew | apply IsS98.set_1 | apply IsS98.set_2 | apply IsS98.far (hne := NB0_173.out)) | exact HI0.out))) : g ≠ gb186)); have n11_ := aA.mk ((by rw [hg]; exact Nat.ne_of_gt (IsS98.lt (show IsS98 w0 _ g s0_0 t184 t185 from by repeat (first | (with_reducible first | exact HI0.out | apply IsS98.alloc | apply IsS98.drewN | apply IsS98.drew | apply IsS98.set_1 | apply IsS98.set_2 | apply IsS98.far (hne := NB0_173.out)) | exact HI0.out))) : gb186 ≠ g)); clear HO182; clear HI0; clear BK173; clear HK; clear HB; have HO182 := n0_; have HI0 := n1_; have BK173 := n2_; have HK := n3_; have HB := n4_; have BK186 := n5_; have GW186 := n6_; have GE186 := n7_; have NB173_186 := n8_; have NB186_173 := n9_; have NB0_186 := n10_; have NB186_0 := n11_; clear n0_ n1_ n2_ n3_ n4_ n5_ n6_ n7_ n8_ n9_ n10_ n11_; clear hb hbox hg; have hnb36 := NB186_173.out; have hnc36 := NB173_186.out; have hnb37 := NB186_0.out; have hnc37 := NB0_186.out; have hcz38_0 : w35.cell? ⟨gb186, 0, none⟩ = some (.int .i64 0) := (aC BK186.out 0).trans rfl; have hcz38_1 : w35.cell? ⟨gb186, 1, none⟩ = some (.int .i64 0) := (aC BK186.out 1).trans rfl; have hcz38_2 : w35.cell? ⟨gb186, 2, none⟩ = some (.int .i64 0) := (aC BK186.out 2).trans rfl; have hcz38_3 : w35.cell? ⟨gb186, 3, none⟩ = some (.int .i64 0) := (aC BK186.out 3).trans rfl; have hcz38_4 : w35.cell? ⟨gb186, 4, none⟩ = some (.int .i64 0) := (aC BK186.out 4).trans rfl; have hfz38_0 := aD BK186.out 0; have hfz38_1 := aD BK186.out 1; have hfz38_2 := aD BK186.out 2; have hfz38_3 := aD BK186.out 3; have hfz38_4 := aD BK186.out 4; have hnb39 := NB173_0.out; have hnc39 := NB0_173.out; have hcz40_0 : w35.cell? ⟨gb173, 0, none⟩ = some (.int .i64 0) := (aC BK173.out 0).trans rfl; have hcz40_1 : w35.cell? ⟨gb173, 1, none⟩ = some (.int .i64 0) := (aC BK173.out 1).trans rfl; have hcz40_2 : w35.cell? ⟨gb173, 2, none⟩ = some (.int .i64 0) := (aC BK173.out 2).trans rfl; have hcz40_3 : w35.cell? ⟨gb173, 3, none⟩ = some (.int .i64 0) := (aC BK173.out 3).trans rfl; have hcz40_4 : w35.cell? ⟨gb173, 4, none⟩ = some (.int .i64 0) := (aC BK173.out 4).trans rfl; have hfz40_0 := aD BK173.out 0; have hfz40_1 := aD BK173.out 1; have hfz40_2 := aD BK173.out 2; have hfz40_3 := aD BK173.out 3; have hfz40_4 := aD BK173.out 4))
  refine bodyPost_ret (results_cell_row rfl _ _ gb173 27 #[.int .i64 t174, .int .i64 (wrap64 (1 + t177)), .int .i64 t183, .int .i64 0, .int .i64 0] (0, 0) _ rfl (by (with_reducible repeat (first | refine aJ ?_ _ | refine aM ?_ | refine aK ?_ _)); refine aZ (cs := #[.int .i64 t174, .int .i64 (wrap64 (1 + t177)), .int .i64 t183, .int .i64 0, .int .i64 0]) ?_ 4 _ rfl; (with_reducible repeat (first | refine aJ ?_ _ | refine aM ?_ | refine aK ?_ _)); refine aZ (cs := #[.int .i64 t174, .int .i64 (wrap64 (1 + t177)), .int .i64 t183, .int .i64 0, .int .i64 0]) ?_ 3 _ rfl; (with_reducible repeat (first | refine aJ ?_ _ | refine aM ?_ | refine aK ?_ _)); refine aZ (cs := #[.int .i64 t174, .int .i64 (wrap64 (1 + t177)), .int .i64 0, .int .i64 0, .int .i64 0]) ?_ 2 _ rfl; (with_reducible repeat (first | refine aJ ?_ _ | refine aM ?_ | refine aK ?_ _)); refine aZ (cs := #[.int .i64 t174, .int .i64 0, .int .i64 0, .int .i64 0, .int .i64 0]) ?_ 1 _ rfl; (with_reducible repeat (first | refine aJ ?_ _ | refine aM ?_ | refine aK ?_ _)); refine aZ (cs := #[.int .i64 0, .int .i64 0, .int .i64 0, .int .i64 0, .int .i64 0]) ?_ 0 _ rfl; (with_reducible repeat (first | refine aJ ?_ _ | refine aM ?_ | refine aK ?_ _)); refine blk_far ?_ NB173_186.out _; (with_reducible repeat (first | refine aJ ?_ _ | refine aM ?_ | refine aK ?_ _)); refine blk_far ?_ NB173_186.out _; (with_reducible repeat (first | refine aJ ?_ _ | refine aM ?_ | refine aK ?_ _)); refine blk_far ?_ NB173_186.out _; (with_reducible repeat (first | refine aJ ?_ _ | refine aM ?_ | refine aK ?_ _)); refine blk_far ?_ NB173_186.out _; (with_reducible repeat (first | refine aJ ?_ _ | refine aM ?_ | refine aK ?_ _)); refine blk_far ?_ NB173_186.out _; (with_reducible repeat (first | refine aJ ?_ _ | refine aM ?_ | refine aK ?_ _)); exact BK173.out) Try.underlying27 rfl (by kernel_rfl)) rfl ?_
  exact ⟨by first | rfl | (simp [errW_none, errW_some] <;> rfl) | (simp [*, errW_none, errW_some] <;> rfl), by repeat (first | (with_reducible first | exact HI0.out | apply IsS98.alloc | apply IsS98.drewN | apply IsS98.drew | apply IsS98.set_1 | apply IsS98.set_2 | apply IsS98.far (hne := NB0_173.out) | apply IsS98.far (hne := NB0_186.out)) | exact HI0.out), by repeat (first | (with_reducible first | exact HB.out | apply aH | apply aE | apply aG | refine aN ?_ (IsS98.ge HI0.out) | refine aN ?_ GE173.out | refine aN ?_ GE186.out) | exact HB.out), by repeat (first | (with_reducible first | exact HK.out | apply KeepBut.set_ | apply bF | apply bJ | apply bG | refine keep_far ?_ GW173.out _ | refine keep_far ?_ GW186.out _) | exact HK.out)⟩
def spec_l4Draw.l0 : Nat → List (S27) → Int → List Int → Int → Int → Option ((List (S27)) × Int × Int)
 | 0, _, _, _, _, _ => none
 | k + 1, x5, x6, x1000, x1001, x1002 => if x6 > 0 then ((spec_l3Draw.f x1000 x1001 x1002).bind fun bt202 => ((spec_SetPut.f k x5 bt202.1 bt202.2.1 bt202.2.2.1 bt202.2.2.2.1 bt202.2.2.2.2.1).bind fun t209 => (spec_l4Draw.l0 k t209 (wrap64 (x6 - 1)) x1000 bt202.2.2.2.2.2.1 bt202.2.2.2.2.2.2))) else (some (x5, x1001, x1002))
def spec_l4Draw.f (k : Nat) (s0_0 : List Int) (s0_1 : Int) (s0_2 : Int) (a1 : Int) : Option ((List (S27)) × Int × Int) := (spec_l1Below.f s0_0 s0_1 s0_2 (wrap64 (a1 + 1))).bind fun bt199 => (spec_l4Draw.l0 k (([] : List (S27))) bt199.1 s0_0 bt199.2.1 bt199.2.2)
set_option maxHeartbeats 8000000 in
set_option maxRecDepth 100000 in
theorem spec_l4Draw.calls (k : Nat) (g : Nat) (s0_0 : List Int) (s0_1 : Int) (s0_2 : Int) (a1 : Int) (r1 : List (S27)) (r2 : Int) (r3 : Int) (w0 w : World) (hI : IsS98 w0 w g s0_0 s0_1 s0_2) (hB : Below w0.heap.size w0 w) (h : spec_l4Draw.f k s0_0 s0_1 s0_2 a1 = some (r1, r2, r3)) :
  Calls Try.prog 81 #[.pointer (some ⟨g, 0, none⟩), .int .i64 a1] w fun e w' => ∃ v0_ : Value, e = .returned (v0_) ∧ Kd.R k27 27 w' w.heap.size (fun _ => True) v0_ r1 ∧ IsS98 w0 w' g s0_0 r2 r3 ∧ Below w0.heap.size w0 w' ∧ KeepBut w w' g none := by
 have HI0 := aA.mk hI
 have HK := aA.mk (KeepBut.refl w g none)
 have HL := aA.mk hB.size
 clear hI
 have HW0 := aA.mk hB.size
 have HB := aA.mk hB
 clear hB
 have H : ((spec_l1Below.f s0_0 s0_1 s0_2 (wrap64 (a1 + 1))).bind fun bt199 => (spec_l4Draw.l0 k (([] : List (S27))) bt199.1 s0_0 bt199.2.1 bt199.2.2)) = some (r1, r2, r3) := h
 clear h
 obtain ⟨y196, hy196⟩ : ∃ y_ : List (S27), y_ = (([] : List (S27))) := ⟨_, rfl⟩
 replace H : ((spec_l1Below.f s0_0 s0_1 s0_2 (wrap64 (a1 + 1))).bind fun bt199 => (spec_l4Draw.l0 k y196 bt199.1 s0_0 bt199.2.1 bt199.2.2)) = some (r1, r2, r3) := by first | (rw [hy196]; with_reducible exact H) | (have H2_ := (Option.bind_some _ _).symm.trans H; rw [hy196]; with_reducible exact H2_) | (have H2_ := (Option.bind_some _ _).symm.trans H; with_reducible exact H2_) | with_reducible exact H | (rw [hy196]; exact H) | exact H
 have Ny196 := aA.mk hy196
 clear hy196
 replace H := lF H
 obtain ⟨⟨t199, t200, t201⟩, A30, H⟩ := H
 replace H : (spec_l4Draw.l0 k y196 t199 s0_0 t200 t201) = some (r1, r2, r3) := H
 have A3 := aA.mk A30
 clear A30
 have H' := aA.mk H
 clear H
 go_enter Try.func81, Try.ntmps81
 go_wp2_with (first | ((with_reducible refine bL (N := 7) rfl ?_); refine Kd.R_lit k27 _ 27 ?hg (N := 7) ?hd (xs := ([] : List (S27))) (inner := []) (ok := fun _ => True) (okp := fun _ => True) ?hr ?hp (fun _ hk => hk) trivial (Below.refl _ _) (Nat.le_refl _) (by simp) ?_; (case hd => rfl); (case hg => rfl); (case hr => first | (go_simp; done) | (go_simp; rfl)); (case hp => exact (Reps.none _ _)); intro v197 w4 ho5 hb hg_ hnew_; clear hg_ hnew_; (first | rw [← Ny196.out] at ho5 | (simp only [Int.reduceToNat] at ho5; rw [← Ny196.out] at ho5)); have n0_ := aA.mk (Kd.R_lower ho5 (keep_size (w := w) (g := g) (row := none) (by repeat (first | (with_reducible first | exact HK.out | apply KeepBut.set_ | apply bF | apply bJ | apply bG) | exact HK.out)))); have n1_ := aA.mk (IsS98.below (by repeat (first | (with_reducible first | exact HI0.out | apply IsS98.alloc | apply IsS98.drewN | apply IsS98.drew | apply IsS98.set_1 | apply IsS98.set_2) | exact HI0.out)) hb); have n2_ := aA.mk (KeepBut.trans (by repeat (first | (with_reducible first | exact HK.out | apply KeepBut.set_ | apply bF | apply bJ | apply bG) | exact HK.out)) (KeepBut.of_below hb g none) (.inl rfl)); have n3_ := aA.mk (aX (by repeat (first | (with_reducible first | exact HB.out | apply aH | apply aE | apply aG | refine aN ?_ (IsS98.ge HI0.out)) | exact HB.out)) hb); clear HI0; clear HK; clear HB; have HO198 := n0_; have HI0 := n1_; have HK := n2_; have HB := n3_; clear n0_ n1_ n2_ n3_; clear hb ho5) | ((with_reducible refine bK (f := 69) rfl ?_); refine goesL_ (some 11) rfl rfl Try.func69 (by kernel_rfl) rfl #[.pointer (some ⟨g, 0, none⟩), .int .i64 (wrap64 (a1 + 1))] rfl (by (try simp only [List.map_toArray, List.map_cons, List.map_nil]); first | done | rfl | (simp only [List.length_drop, List.length_take]; rfl)) ?_; (with_reducible refine (spec_l1Below.calls g s0_0 s0_1 s0_2 (wrap64 (a1 + 1)) t199 t200 t201 w0 _ ?side1 ?side2 A3.out).mono ?_); (case side1 => repeat (first | (with_reducible first | exact HI0.out | apply IsS98.alloc | apply IsS98.drewN | apply IsS98.drew | apply IsS98.set_1 | apply IsS98.set_2) | exact HI0.out)); (case side2 => repeat (first | (with_reducible first | exact HB.out | apply aH | apply aE | apply aG | refine aN ?_ (IsS98.ge HI0.out)) | exact HB.out)); rintro e w6 ⟨rfl, hi, hb, hk⟩; refine ⟨_, rfl, ?_⟩; have n0_ := aA.mk (Kd.R_mono (Kd.R_keep (IsS98.apart (show IsS98 w0 _ g s0_0 s0_1 s0_2 from by repeat (first | (with_reducible first | exact HI0.out | apply IsS98.alloc | apply IsS98.drewN | apply IsS98.drew | apply IsS98.set_1 | apply IsS98.set_2) | exact HI0.out)) (by (with_reducible repeat (first | apply Kd.bC | apply Kd.bD | apply Kd.aY)); exact HO198.out) (by decide)) hk (fun _ h => h.2)) (fun _ h => h.1)); have n1_ := aA.mk (KeepBut.trans (by repeat (first | (with_reducible first | exact HK.out | apply KeepBut.set_ | apply bF | apply bJ | apply bG) | exact HK.out)) hk (.inl rfl)); have n2_ := aA.mk (hb); have n3_ := aA.mk (hi); clear HO198; clear HK; clear HB; clear HI0; have HO198 := n0_; have HK := n1_; have HB := n2_; have HI0 := n3_; clear n0_ n1_ n2_ n3_; (try clear hb); (try clear hk); (try clear hi)))
 go_loopg [5, 6] k (fun kq v5 v6 w' => ∃ (x5_1 : List (S27)) (x6_1 : Int) (x1001_1 : Int) (x1002_1 : Int), v6 = .int .i64 x6_1 ∧ aA (spec_l4Draw.l0 kq x5_1 x6_1 s0_0 x1001_1 x1002_1 = some (r1, r2, r3)) ∧ aA (kq ≤ k) ∧ aA (Kd.R k27 27 w' w.heap.size (fun _ => True) v5 x5_1) ∧ aA (IsS98 w0 w' g s0_0 x1001_1 x1002_1) ∧ aA (KeepBut w w' g none) ∧ aA (Below w0.heap.size w0 w'))
 case atStart => exact ⟨(y196), (t199), (t200), (t201), (by first | rfl | (simp; done) | (simp [*]; done)), H', ⟨Nat.le_refl _⟩, ⟨by (with_reducible repeat (first | apply Kd.bC | apply Kd.bD | apply Kd.aY)); exact HO198.out⟩, ⟨by repeat (first | (with_reducible first | exact HI0.out | apply IsS98.alloc | apply IsS98.drewN | apply IsS98.drew | apply IsS98.set_1 | apply IsS98.set_2) | exact HI0.out)⟩, ⟨by repeat (first | (with_reducible first | exact HK.out | apply KeepBut.set_ | apply bF | apply bJ | apply bG) | exact HK.out)⟩, ⟨by repeat (first | (with_reducible first | exact HB.out | apply aH | apply aE | apply aG | refine aN ?_ (IsS98.ge HI0.out)) | exact HB.out)⟩⟩
 case round =>
  clear H'
  try clear p2
  try clear c6
  try clear p6
  obtain ⟨x5_1, x6_1, x1001_1, x1002_1, rfl, HA, HK1, HO_5, HI0, HK, HB⟩ := hrel
  cases gk with
  | zero => exact absurd HA.out (by simp [spec_l4Draw.l0])
  | succ k1 =>
   have H := HA.out
   clear HA
   simp only [spec_l4Draw.l0] at H
   by_cases c7 : x6_1 > 0
   ·rw [if_pos c7] at H
    have c7b0 : decide (0 < x6_1) = true := decide_eq_true c7
    clear c7
    replace H := lF H
    obtain ⟨⟨t202, t203, t204, t205, t206, t207, t208⟩, A80, H⟩ := H
    replace H : ((spec_SetPut.f k1 x5_1 t202 t203 t204 t205 t206).bind fun t209 => (spec_l4Draw.l0 k1 t209 (wrap64 (x6_1 - 1)) s0_0 t207 t208)) = some (r1, r2, r3) := H
    have A8 := aA.mk A80
    clear A80
    replace H := lF H
    obtain ⟨t209, A90, H⟩ := H
    replace H : (spec_l4Draw.l0 k1 t209 (wrap64 (x6_1 - 1)) s0_0 t207 t208) = some (r1, r2, r3) := H
    have A9 := aA.mk A90
    clear A90
    have H' := aA.mk H
    clear H
    go_wp2_with (first | ((with_reducible refine bK (f := 72) rfl ?_); refine goesL_ (some 18) rfl rfl Try.func72 (by kernel_rfl) rfl #[.pointer (some ⟨g, 0, none⟩)] rfl (by (try simp only [List.map_toArray, List.map_cons, List.map_nil]); first | done | rfl | (simp only [List.length_drop, List.length_take]; rfl)) ?_; (with_reducible refine (spec_l3Draw.calls g s0_0 x1001_1 x1002_1 t202 t203 t204 t205 t206 t207 t208 w0 _ ?side1 ?side2 A8.out).mono ?_); (case side1 => repeat (first | (with_reducible first | exact HI0.out | apply IsS98.alloc | apply IsS98.drewN | apply IsS98.drew | apply IsS98.set_1 | apply IsS98.set_2) | exact HI0.out)); (case side2 => repeat (first | (with_reducible first | exact HB.out | apply aH | apply aE | apply aG | refine aN ?_ (IsS98.ge HI0.out)) | exact HB.out)); rintro e w10 ⟨rfl, hi, hb, hk⟩; refine ⟨_, rfl, ?_⟩; have n0_ := aA.mk (Kd.R_mono (Kd.R_keep (IsS98.apart (show IsS98 w0 _ g s0_0 x1001_1 x1002_1 from by repeat (first | (with_reducible first | exact HI0.out | apply IsS98.alloc | apply IsS98.drewN | apply IsS98.drew | apply IsS98.set_1 | apply IsS98.set_2) | exact HI0.out)) (by (with_reducible repeat (first | apply Kd.bC | apply Kd.bD | apply Kd.aY)); exact HO_5.out) (by decide)) hk (fun _ h => h.2)) (fun _ h => h.1)); have n1_ := aA.mk (KeepBut.trans (by repeat (first | (with_reducible first | exact HK.out | apply KeepBut.set_ | apply bF | apply bJ | apply bG) | exact HK.out)) hk (.inl rfl)); have n2_ := aA.mk (hb); have n3_ := aA.mk (hi); clear HO_5; clear HK; clear HB; clear HI0; have HO_5 := n0_; have HK := n1_; have HB := n2_; have HI0 := n3_; clear n0_ n1_ n2_ n3_; (try clear hb); (try clear hk); (try clear hi); obtain ⟨Ao11, co11, eo11⟩ := Kd.R_slice HO_5.out; subst eo11) | ((with_reducible refine bK (f := 52) rfl ?_); refine goesL_ (some 19) rfl rfl Try.func52 (by kernel_rfl) rfl #[.slice Ao11 x5_1.length co11, .agg #[.int .i64 t202, .int .i64 t203, .int .i64 t204, .int .i64 t205, .int .i64 t206]] rfl (by (try simp only [List.map_toArray, List.map_cons, List.map_nil]); first | done | rfl | (simp only [List.length_drop, List.length_take]; rfl)) ?_; (with_reducible refine (spec_SetPut.calls k1 _ _ x5_1 t202 t203 t204 t205 t206 t209 _ ?side1 ?side2 A9.out).mono ?_); (case side1 => repeat (first | exact (Kd.R_reads' HO_5.out).2.2 | (with_reducible refine Kd.C_alloc ?_ _) | (with_reducible refine Kd.C_drewN ?_ _) | (with_reducible refine Kd.C_drew ?_))); (case side2 => exact (Kd.R_reads' HO_5.out).2.1); rintro e w12 ⟨v210, rfl, ho0, hb⟩; refine ⟨_, rfl, ?_⟩; have n0_ := aA.mk (Kd.R_elder' (by (with_reducible repeat (first | apply Kd.bC | apply Kd.bD | apply Kd.aY)); exact HO_5.out) (Kd.R_base ho0) hb); have n1_ := aA.mk (Kd.R_lower (Kd.R_new' ho0 (Kd.R_lt (by (with_reducible repeat (first | apply Kd.bC | apply Kd.bD | apply Kd.aY)); exact HO_5.out))) (keep_size (w := w) (g := g) (row := none) (by repeat (first | (with_reducible first | exact HK.out | apply KeepBut.set_ | apply bF | apply bJ | apply bG) | exact HK.out)))); have n2_ := aA.mk (IsS98.below (by repeat (first | (with_reducible first | exact HI0.out | apply IsS98.alloc | apply IsS98.drewN | apply IsS98.drew | apply IsS98.set_1 | apply IsS98.set_2) | exact HI0.out)) hb); have n3_ := aA.mk (KeepBut.trans (by repeat (first | (with_reducible first | exact HK.out | apply KeepBut.set_ | apply bF | apply bJ | apply bG) | exact HK.out)) (KeepBut.of_below hb g none) (.inl rfl)); have n4_ := aA.mk (aX (by repeat (first | (with_reducible first | exact HB.out | apply aH | apply aE | apply aG | refine aN ?_ (IsS98.ge HI0.out)) | exact HB.out)) hb); clear HO_5; clear HI0; clear HK; clear HB; have HO_5 := n0_; have HO211 := n1_; have HI0 := n2_; have HK := n3_; have HB := n4_; clear n0_ n1_ n2_ n3_ n4_; (try clear hb); (try clear hk); (try clear hi); (try clear ho0)))
    go_roundg k1
    case measure => have := HK1.out; omega
    case rel => exact ⟨(t209), (wrap64 (x6_1 - 1)), (t207), (t208), (by first | rfl | (simp; done) | (simp [*]; done)), H', ⟨by have := HK1.out; omega⟩, ⟨by (with_reducible repeat (first | apply Kd.bC | apply Kd.bD | apply Kd.aY)); exact Kd.R_mono HO211.out (fun _ hk => trivial)⟩, ⟨by repeat (first | (with_reducible first | exact HI0.out | apply IsS98.alloc | apply IsS98.drewN | apply IsS98.drew | apply IsS98.set_1 | apply IsS98.set_2) | exact HI0.out)⟩, ⟨by repeat (first | (with_reducible first | exact HK.out | apply KeepBut.set_ | apply bF | apply bJ | apply bG) | exact HK.out)⟩, ⟨by repeat (first | (with_reducible first | exact HB.out | apply aH | apply aE | apply aG | refine aN ?_ (IsS98.ge HI0.out)) | exact HB.out)⟩⟩
   ·rw [if_neg c7] at H
    have c7b0 : decide (0 < x6_1) = false := decide_eq_false c7
    clear c7
    simp only [Option.some.injEq, Prod.mk.injEq] at H
    obtain ⟨rfl, rfl, rfl⟩ := H
    go_wp2
    go_ret
    exact ⟨_, by first | rfl | (simp [errW_none, errW_some] <;> rfl) | (simp [*, errW_none, errW_some] <;> rfl), by (with_reducible repeat (first | apply Kd.bC | apply Kd.bD | apply Kd.aY)); exact HO_5.out, by repeat (first | (with_reducible first | exact HI0.out | apply IsS98.alloc | apply IsS98.drewN | apply IsS98.drew | apply IsS98.set_1 | apply IsS98.set_2) | exact HI0.out), by repeat (first | (with_reducible first | exact HB.out | apply aH | apply aE | apply aG | refine aN ?_ (IsS98.ge HI0.out)) | exact HB.out), by repeat (first | (with_reducible first | exact HK.out | apply KeepBut.set_ | apply bF | apply bJ | apply bG) | exact HK.out)⟩
def spec_DrawMergeSets.f (k : Nat) (l0 : List Int) : Option ((List (S27)) × (List (S27))) := (spec_l1New.f k l0).bind fun bt212 => ((spec_l4Draw.f k bt212.1 bt212.2.1 bt212.2.2 6).bind fun bt216 => ((spec_l4Draw.f k bt212.1 bt216.2.1 bt216.2.2 6).bind fun bt221 => (some (bt216.1, bt221.1))))
set_option maxHeartbeats 8000000 in
set_option maxRecDepth 100000 in
theorem spec_DrawMergeSets.calls (k : Nat) (A0 : Option Addr) (c0 : Nat) (l0 : List Int) (r1 : List (S27)) (r2 : List (S27)) (w : World) (hr0 : Kd.C (Kd.int .u8) w A0 l0.length l0) (hc0 : l0.length ≤ c0) (h : spec_DrawMergeSets.f k l0 = some (r1, r2)) :
  Calls Try.prog 54 #[.slice A0 l0.length c0] w fun e w' => ∃ v0_ v1_ : Value, e = .returned (.tuple #[v0_, v1_]) ∧ Kd.R k27 27 w' w.heap.size (fun k_ => some k_ ≠ (v1_ : Value).ownBlock) v0_ r1 ∧ Kd.R k27 27 w' w.heap.size (fun k_ => some k_ ≠ (v0_ : Value).ownBlock) v1_ r2 ∧ Below w.heap.size w w' := by
 have HR0 := aA.mk hr0
 have HC0 := aA.mk hc0
 clear hr0 hc0
 have HB := aA.mk (Below.refl w.heap.size w)
 have H : ((spec_l1New.f k l0).bind fun bt212 => ((spec_l4Draw.f k bt212.1 bt212.2.1 bt212.2.2 6).bind fun bt216 => ((spec_l4Draw.f k bt212.1 bt216.2.1 bt216.2.2 6).bind fun bt221 => (some (bt216.1, bt221.1))))) = some (r1, r2) := h
 clear h
 replace H := lF H
 obtain ⟨⟨t212, t213, t214⟩, A20, H⟩ := H
 replace H : ((spec_l4Draw.f k t212 t213 t214 6).bind fun bt216 => ((spec_l4Draw.f k t212 bt216.2.1 bt216.2.2 6).bind fun bt221 => (some (bt216.1, bt221.1)))) = some (r1, r2) := H
 have A2 := aA.mk A20
 clear A20
 replace H := lF H
 obtain ⟨⟨t216, t219, t220⟩, A30, H⟩ := H
 replace H : ((spec_l4Draw.f k t212 t219 t220 6).bind fun bt221 => (some (t216, bt221.1))) = some (r1, r2) := H
 have A3 := aA.mk A30
 clear A30
 replace H := lF H
 obtain ⟨⟨t221, t224, t225⟩, A40, H⟩ := H
 replace H : (some (t216, t221)) = some (r1, r2) := H
 have A4 := aA.mk A40
 clear A40
 simp only [Option.some.injEq, Prod.mk.injEq] at H
 obtain ⟨rfl, rfl⟩ := H
 go_enter Try.func54, Try.ntmps54
 go_wp2_with (first | ((with_reducible refine bK (f := 67) rfl ?_); refine goesL_ (some 7) rfl rfl Try.func67 (by kernel_rfl) rfl #[.slice A0 l0.length c0] rfl (by (try simp only [List.map_toArray, List.map_cons, List.map_nil]); first | done | rfl | (simp only [List.length_drop, List.length_take]; rfl)) ?_; (with_reducible refine (spec_l1New.calls k _ _ l0 t212 t213 t214 w _ ?side1 ?side2 ?side3 A2.out).mono ?_); (case side1 => repeat (first | (with_reducible first | exact HB.out | apply aH | apply aE | apply aG) | exact HB.out)); (case side2 => exact HR0.out); (case side3 => exact HC0.out); rintro e w5 ⟨g215, rfl, hi, hb, hb2⟩; refine ⟨_, rfl, ?_⟩; have n0_ := aA.mk (hb); have n1_ := aA.mk (hi); clear HB; have HB := n0_; have HI215 := n1_; clear n0_ n1_; (try clear hb); (try clear hb2); (try clear hk); (try clear hi)) | ((with_reducible refine bK (f := 81) rfl ?_); refine goesL_ (some 9) rfl rfl Try.func81 (by kernel_rfl) rfl #[.pointer (some ⟨g215, 0, none⟩), .int .i64 6] rfl (by (try simp only [List.map_toArray, List.map_cons, List.map_nil]); first | done | rfl | (simp only [List.length_drop, List.length_take]; rfl)) ?_; (with_reducible refine (spec_l4Draw.calls k g215 t212 t213 t214 6 t216 t219 t220 w _ ?side1 ?side2 A3.out).mono ?_); (case side1 => repeat (first | (with_reducible first | exact HI215.out | apply IsS98.alloc | apply IsS98.drewN | apply IsS98.drew | apply IsS98.set_1 | apply IsS98.set_2) | exact HI215.out)); (case side2 => repeat (first | (with_reducible first | exact HB.out | apply aH | apply aE | apply aG | refine aN ?_ (IsS98.ge HI215.out)) | exact HB.out)); rintro e w6 ⟨v217, rfl, ho0, hi, hb, hk⟩; refine ⟨_, rfl, ?_⟩; have n0_ := aA.mk (Kd.R_lower ho0 (aW (by repeat (first | (with_reducible first | exact HB.out | apply aH | apply aE | apply aG | refine aN ?_ (IsS98.ge HI215.out)) | exact HB.out)))); have n1_ := aA.mk (hb); have n2_ := aA.mk (hi); clear HB; clear HI215; have HO218 := n0_; have HB := n1_; have HI215 := n2_; clear n0_ n1_ n2_; (try clear hb); (try clear hb2); (try clear hk); (try clear hi); (try clear ho0)) | ((with_reducible refine bK (f := 81) rfl ?_); refine goesL_ (some 12) rfl rfl Try.func81 (by kernel_rfl) rfl #[.pointer (some ⟨g215, 0, none⟩), .int .i64 6] rfl (by (try simp only [List.map_toArray, List.map_cons, List.map_nil]); first | done | rfl | (simp only [List.length_drop, List.length_take]; rfl)) ?_; (with_reducible refine (spec_l4Draw.calls k g215 t212 t219 t220 6 t221 t224 t225 w _ ?side1 ?side2 A4.out).mono ?_); (case side1 => repeat (first | (with_reducible first | exact HI215.out | apply IsS98.alloc | apply IsS98.drewN | apply IsS98.drew | apply IsS98.set_1 | apply IsS98.set_2) | exact HI215.out)); (case side2 => repeat (first | (with_reducible first | exact HB.out | apply aH | apply aE | apply aG | refine aN ?_ (IsS98.ge HI215.out)) | exact HB.out)); rintro e w7 ⟨v222, rfl, ho0, hi, hb, hk⟩; refine ⟨_, rfl, ?_⟩; have n0_ := aA.mk (Kd.R_mono (Kd.R_told (Kd.R_oldK (IsS98.apart (show IsS98 w _ g215 t212 t219 t220 from by repeat (first | (with_reducible first | exact HI215.out | apply IsS98.alloc | apply IsS98.drewN | apply IsS98.drew | apply IsS98.set_1 | apply IsS98.set_2) | exact HI215.out)) (by (with_reducible repeat (first | apply Kd.bC | apply Kd.bD | apply Kd.aY)); exact HO218.out) (by decide)) hk) (Kd.R_base ho0)) (fun _ h_ => h_.1)); have n1_ := aA.mk (Kd.R_lower (Kd.R_new' ho0 (Kd.R_lt (by (with_reducible repeat (first | apply Kd.bC | apply Kd.bD | apply Kd.aY)); exact HO218.out))) (aW (by repeat (first | (with_reducible first | exact HB.out | apply aH | apply aE | apply aG | refine aN ?_ (IsS98.ge HI215.out)) | exact HB.out)))); have n2_ := aA.mk (hb); have n3_ := aA.mk (hi); clear HO218; clear HB; clear HI215; have HO218 := n0_; have HO223 := n1_; have HB := n2_; have HI215 := n3_; clear n0_ n1_ n2_ n3_; (try clear hb); (try clear hb2); (try clear hk); (try clear hi); (try clear ho0)))
 go_ret2
 exact ⟨_, _, by first | rfl | (simp [errW_none, errW_some] <;> rfl) | (simp [*, errW_none, errW_some] <;> rfl), by (with_reducible repeat (first | apply Kd.bC | apply Kd.bD | apply Kd.aY)); exact Kd.R_mono HO218.out (fun _ hk => hk.2), by (with_reducible repeat (first | apply Kd.bC | apply Kd.bD | apply Kd.aY)); exact Kd.R_mono HO223.out (fun _ hk => hk.2), by repeat (first | (with_reducible first | exact HB.out | apply aH | apply aE | apply aG | refine aN ?_ (IsS98.ge HI215.out)) | exact HB.out)⟩
def impl_SameSpot.f (a0_0 : Int) (a0_1 : Int) (a0_2 : Int) (a0_3 : Int) (a0_4 : Int) (a1_0 : Int) (a1_1 : Int) (a1_2 : Int) (a1_3 : Int) (a1_4 : Int) : Option (Bool) := if a0_0 = a1_0 then (some (a0_1 == a1_1)) else (some false)
set_option maxHeartbeats 8000000 in
set_option maxRecDepth 100000 in
theorem impl_SameSpot.calls (a0_0 : Int) (a0_1 : Int) (a0_2 : Int) (a0_3 : Int) (a0_4 : Int) (a1_0 : Int) (a1_1 : Int) (a1_2 : Int) (a1_3 : Int) (a1_4 : Int) (r : Bool) (w : World) (h : impl_SameSpot.f a0_0 a0_1 a0_2 a0_3 a0_4 a1_0 a1_1 a1_2 a1_3 a1_4 = some r) :
  Calls Try.prog 29 #[.agg #[.int .i64 a0_0, .int .i64 a0_1, .int .i64 a0_2, .int .i64 a0_3, .int .i64 a0_4], .agg #[.int .i64 a1_0, .int .i64 a1_1, .int .i64 a1_2, .int .i64 a1_3, .int .i64 a1_4]] w fun e w' => e = .returned (.bool r) ∧ Below w.heap.size w w' := by
 have hu27 := Try.underlying27
 have HB := aA.mk (Below.refl w.heap.size w)
 have H : (if a0_0 = a1_0 then (some (a0_1 == a1_1)) else (some false)) = some r := h
 clear h
 by_cases c3 : a0_0 = a1_0
 ·rw [if_pos c3] at H
  have c3b0 : (a0_0 == a1_0) = true := beq_iff_eq.mpr c3
  have c3b1 : (a0_0 != a1_0) = false := bne_eq_false_iff_eq.mpr c3
  clear c3
  obtain rfl := Option.some.inj H
  go_enter Try.func29, Try.ntmps29
  go_wp2_with (first | ((with_reducible refine bL (N := 2) rfl ?_); refine bM ?hg (N := 2) ?hd (cs := #[.int .i64 a0_0, .int .i64 a0_1, .int .i64 a0_2, .int .i64 a0_3, .int .i64 a0_4]) (t := 27) ?hr ?_; (case hd => rfl); (case hg => rfl); (case hr => first | (go_simp; done) | (go_simp; rfl)); intro gb226 hg w4 hbox hb; have n0_ := aA.mk (aX (by repeat (first | (with_reducible first | exact HB.out | apply aH | apply aE | apply aG) | exact HB.out)) hb); have n1_ := aA.mk (hbox); have n2_ := aA.mk ((by rw [hg]; exact (aW (by repeat (first | (with_reducible first | exact HB.out | apply aH | apply aE | apply aG) | exact HB.out))) : w.heap.size ≤ gb226)); have n3_ := aA.mk ((by rw [hg]; exact (aW (by repeat (first | (with_reducible first | exact HB.out | apply aH | apply aE | apply aG) | exact HB.out))) : w.heap.size ≤ gb226)); clear HB; have HB := n0_; have BK226 := n1_; have GW226 := n2_; have GE226 := n3_; clear n0_ n1_ n2_ n3_; clear hb hbox hg) | ((with_reducible refine bL (N := 3) rfl ?_); refine bM ?hg (N := 3) ?hd (cs := #[.int .i64 a1_0, .int .i64 a1_1, .int .i64 a1_2, .int .i64 a1_3, .int .i64 a1_4]) (t := 27) ?hr ?_; (case hd => rfl); (case hg => rfl); (case hr => first | (go_simp; done) | (go_simp; rfl)); intro gb227 hg w5 hbox hb; have n0_ := aA.mk (bE (g := gb226) (o := .cells #[.int .i64 a0_0, .int .i64 a0_1, .int .i64 a0_2, .int .i64 a0_3, .int .i64 a0_4] 27 (0, 0)) (by (with_reducible repeat (first | refine aJ ?_ _ | refine aM ?_ | refine aK ?_ _)); exact BK226.out) hb); have n1_ := aA.mk (aX (by repeat (first | (with_reducible first | exact HB.out | apply aH | apply aE | apply aG | refine aN ?_ GE226.out) | exact HB.out)) hb); have n2_ := aA.mk (hbox); have n3_ := aA.mk ((by rw [hg]; exact (aW (by repeat (first | (with_reducible first | exact HB.out | apply aH | apply aE | apply aG | refine aN ?_ GE226.out) | exact HB.out))) : w.heap.size ≤ gb227)); have n4_ := aA.mk ((by rw [hg]; exact (aW (by repeat (first | (with_reducible first | exact HB.out | apply aH | apply aE | apply aG | refine aN ?_ GE226.out) | exact HB.out))) : w.heap.size ≤ gb227)); have n5_ := aA.mk ((by rw [hg]; exact Nat.ne_of_lt (blk_lt (g := gb226) (o := .cells #[.int .i64 a0_0, .int .i64 a0_1, .int .i64 a0_2, .int .i64 a0_3, .int .i64 a0_4] 27 (0, 0)) (by (with_reducible repeat (first | refine aJ ?_ _ | refine aM ?_ | refine aK ?_ _)); exact BK226.out)) : gb226 ≠ gb227)); have n6_ := aA.mk ((by rw [hg]; exact Nat.ne_of_gt (blk_lt (g := gb226) (o := .cells #[.int .i64 a0_0, .int .i64 a0_1, .int .i64 a0_2, .int .i64 a0_3, .int .i64 a0_4] 27 (0, 0)) (by (with_reducible repeat (first | refine aJ ?_ _ | refine aM ?_ | refine aK ?_ _)); exact BK226.out)) : gb227 ≠ gb226)); clear BK226; clear HB; have BK226 := n0_; have HB := n1_; have BK227 := n2_; have GW227 := n3_; have GE227 := n4_; have NB226_227 := n5_; have NB227_226 := n6_; clear n0_ n1_ n2_ n3_ n4_ n5_ n6_; clear hb hbox hg; have hnb6 := NB226_227.out; have hnc6 := NB227_226.out; have hcz7_0 : w5.cell? ⟨gb226, 0, none⟩ = some (.int .i64 a0_0) := (aC BK226.out 0).trans rfl; have hcz7_1 : w5.cell? ⟨gb226, 1, none⟩ = some (.int .i64 a0_1) := (aC BK226.out 1).trans rfl; have hcz7_2 : w5.cell? ⟨gb226, 2, none⟩ = some (.int .i64 a0_2) := (aC BK226.out 2).trans rfl; have hcz7_3 : w5.cell? ⟨gb226, 3, none⟩ = some (.int .i64 a0_3) := (aC BK226.out 3).trans rfl; have hcz7_4 : w5.cell? ⟨gb226, 4, none⟩ = some (.int .i64 a0_4) := (aC BK226.out 4).trans rfl; have hfz7_0 := aD BK226.out 0; have hfz7_1 := aD BK226.out 1; have hfz7_2 := aD BK226.out 2; have hfz7_3 := aD BK226.out 3; have hfz7_4 := aD BK226.out 4; have hcz8_0 : w5.cell? ⟨gb227, 0, none⟩ = some (.int .i64 a1_0) := (aC BK227.out 0).trans rfl; have hcz8_1 : w5.cell? ⟨gb227, 1, none⟩ = some (.int .i64 a1_1) := (aC BK227.out 1).trans rfl; have hcz8_2 : w5.cell? ⟨gb227, 2, none⟩ = some (.int .i64 a1_2) := (aC BK227.out 2).trans rfl; have hcz8_3 : w5.cell? ⟨gb227, 3, none⟩ = some (.int .i64 a1_3) := (aC BK227.out 3).trans rfl; have hcz8_4 : w5.cell? ⟨gb227, 4, none⟩ = some (.int .i64 a1_4) := (aC BK227.out 4).trans rfl; have hfz8_0 := aD BK227.out 0; have hfz8_1 := aD BK227.out 1; have hfz8_2 := aD BK227.out 2; have hfz8_3 := aD BK227.out 3; have hfz8_4 := aD BK227.out 4))
  go_ret
  exact ⟨by first | rfl | (simp [errW_none, errW_some] <;> rfl) | (simp [*, errW_none, errW_some] <;> rfl), by repeat (first | (with_reducible first | exact HB.out | apply aH | apply aE | apply aG | refine aN ?_ GE226.out | refine aN ?_ GE227.out) | exact HB.out)⟩
 ·rw [if_neg c3] at H
  have c3b0 : (a0_0 == a1_0) = false := beq_eq_false_iff_ne.mpr c3
  have c3b1 : (a0_0 != a1_0) = true := bne_iff_ne.mpr c3
  obtain rfl := Option.some.inj H
  go_enter Try.func29, Try.ntmps29
  go_wp2_with (first | ((with_reducible refine bL (N := 2) rfl ?_); refine bM ?hg (N := 2) ?hd (cs := #[.int .i64 a0_0, .int .i64 a0_1, .int .i64 a0_2, .int .i64 a0_3, .int .i64 a0_4]) (t := 27) ?hr ?_; (case hd => rfl); (case hg => rfl); (case hr => first | (go_simp; done) | (go_simp; rfl)); intro gb226 hg w9 hbox hb; have n0_ := aA.mk (aX (by repeat (first | (with_reducible first | exact HB.out | apply aH | apply aE | apply aG) | exact HB.out)) hb); have n1_ := aA.mk (hbox); have n2_ := aA.mk ((by rw [hg]; exact (aW (by repeat (first | (with_reducible first | exact HB.out | apply aH | apply aE | apply aG) | exact HB.out))) : w.heap.size ≤ gb226)); have n3_ := aA.mk ((by rw [hg]; exact (aW (by repeat (first | (with_reducible first | exact HB.out | apply aH | apply aE | apply aG) | exact HB.out))) : w.heap.size ≤ gb226)); clear HB; have HB := n0_; have BK226 := n1_; have GW226 := n2_; have GE226 := n3_; clear n0_ n1_ n2_ n3_; clear hb hbox hg) | ((with_reducible refine bL (N := 3) rfl ?_); refine bM ?hg (N := 3) ?hd (cs := #[.int .i64 a1_0, .int .i64 a1_1, .int .i64 a1_2, .int .i64 a1_3, .int .i64 a1_4]) (t := 27) ?hr ?_; (case hd => rfl); (case hg => rfl); (case hr => first | (go_simp; done) | (go_simp; rfl)); intro gb227 hg w10 hbox hb; have n0_ := aA.mk (bE (g := gb226) (o := .cells #[.int .i64 a0_0, .int .i64 a0_1, .int .i64 a0_2, .int .i64 a0_3, .int .i64 a0_4] 27 (0, 0)) (by (with_reducible repeat (first | refine aJ ?_ _ | refine aM ?_ | refine aK ?_ _)); exact BK226.out) hb); have n1_ := aA.mk (aX (by repeat (first | (with_reducible first | exact HB.out | apply aH | apply aE | apply aG | refine aN ?_ GE226.out) | exact HB.out)) hb); have n2_ := aA.mk (hbox); have n3_ := aA.mk ((by rw [hg]; exact (aW (by repeat (first | (with_reducible first | exact HB.out | apply aH | apply aE | apply aG | refine aN ?_ GE226.out) | exact HB.out))) : w.heap.size ≤ gb227)); have n4_ := aA.mk ((by rw [hg]; exact (aW (by repeat (first | (with_reducible first | exact HB.out | apply aH | apply aE | apply aG | refine aN ?_ GE226.out) | exact HB.out))) : w.heap.size ≤ gb227)); have n5_ := aA.mk ((by rw [hg]; exact Nat.ne_of_lt (blk_lt (g := gb226) (o := .cells #[.int .i64 a0_0, .int .i64 a0_1, .int .i64 a0_2, .int .i64 a0_3, .int .i64 a0_4] 27 (0, 0)) (by (with_reducible repeat (first | refine aJ ?_ _ | refine aM ?_ | refine aK ?_ _)); exact BK226.out)) : gb226 ≠ gb227)); have n6_ := aA.mk ((by rw [hg]; exact Nat.ne_of_gt (blk_lt (g := gb226) (o := .cells #[.int .i64 a0_0, .int .i64 a0_1, .int .i64 a0_2, .int .i64 a0_3, .int .i64 a0_4] 27 (0, 0)) (by (with_reducible repeat (first | refine aJ ?_ _ | refine aM ?_ | refine aK ?_ _)); exact BK226.out)) : gb227 ≠ gb226)); clear BK226; clear HB; have BK226 := n0_; have HB := n1_; have BK227 := n2_; have GW227 := n3_; have GE227 := n4_; have NB226_227 := n5_; have NB227_226 := n6_; clear n0_ n1_ n2_ n3_ n4_ n5_ n6_; clear hb hbox hg; have hnb11 := NB226_227.out; have hnc11 := NB227_226.out; have hcz12_0 : w10.cell? ⟨gb226, 0, none⟩ = some (.int .i64 a0_0) := (aC BK226.out 0).trans rfl; have hcz12_1 : w10.cell? ⟨gb226, 1, none⟩ = some (.int .i64 a0_1) := (aC BK226.out 1).trans rfl; have hcz12_2 : w10.cell? ⟨gb226, 2, none⟩ = some (.int .i64 a0_2) := (aC BK226.out 2).trans rfl; have hcz12_3 : w10.cell? ⟨gb226, 3, none⟩ = some (.int .i64 a0_3) := (aC BK226.out 3).trans rfl; have hcz12_4 : w10.cell? ⟨gb226, 4, none⟩ = some (.int .i64 a0_4) := (aC BK226.out 4).trans rfl; have hfz12_0 := aD BK226.out 0; have hfz12_1 := aD BK226.out 1; have hfz12_2 := aD BK226.out 2; have hfz12_3 := aD BK226.out 3; have hfz12_4 := aD BK226.out 4; have hcz13_0 : w10.cell? ⟨gb227, 0, none⟩ = some (.int .i64 a1_0) := (aC BK227.out 0).trans rfl; have hcz13_1 : w10.cell? ⟨gb227, 1, none⟩ = some (.int .i64 a1_1) := (aC BK227.out 1).trans rfl; have hcz13_2 : w10.cell? ⟨gb227, 2, none⟩ = some (.int .i64 a1_2) := (aC BK227.out 2).trans rfl; have hcz13_3 : w10.cell? ⟨gb227, 3, none⟩ = some (.int .i64 a1_3) := (aC BK227.out 3).trans rfl; have hcz13_4 : w10.cell? ⟨gb227, 4, none⟩ = some (.int .i64 a1_4) := (aC BK227.out 4).trans rfl; have hfz13_0 := aD BK227.out 0; have hfz13_1 := aD BK227.out 1; have hfz13_2 := aD BK227.out 2; have hfz13_3 := aD BK227.out 3; have hfz13_4 := aD BK227.out 4))
  go_ret
  exact ⟨by first | rfl | (simp [errW_none, errW_some] <;> rfl) | (simp [*, errW_none, errW_some] <;> rfl), by repeat (first | (with_reducible first | exact HB.out | apply aH | apply aE | apply aG | refine aN ?_ GE226.out | refine aN ?_ GE227.out) | exact HB.out)⟩
mutual
def impl_SetPut.l0 : Nat → List (S27) → Bool → List (S27) → Int → Int → Int → Int → Int → Int → Int → Option ((List (S27)))
 | 0, _, _, _, _, _, _, _, _, _, _ => none
 | k + 1, x5, x6, x10, x11, x12, x229000, x229001, x229002, x229003, x229004 => if x12 < x11 then (if 0 ≤ x12 then (if x12 < (x10.length : Int) then (if x6 = true then (impl_SetPut.j1 k x5 x6 x10 x11 x12 false x229000 x229001 x229002 x229003 x229004 ((rd_T27 x10 x12).f0) ((rd_T27 x10 x12).f1) ((rd_T27 x10 x12).f2) ((rd_T27 x10 x12).f3) ((rd_T27 x10 x12).f4)) else ((impl_LessKey.f ((rd_T27 x10 x12).f0) ((rd_T27 x10 x12).f1) ((rd_T27 x10 x12).f2) ((rd_T27 x10 x12).f3) ((rd_T27 x10 x12).f4) x229000 x229001 x229002 x229003 x229004).bind fun t237 => (impl_SetPut.j1 k x5 x6 x10 x11 x12 (!t237) x229000 x229001 x229002 x229003 x229004 ((rd_T27 x10 x12).f0) ((rd_T27 x10 x12).f1) ((rd_T27 x10 x12).f2) ((rd_T27 x10 x12).f3) ((rd_T27 x10 x12).f4)))) else (none)) else (none)) else (if x6 = true then (some x5) else (if x5.length < 3518437208883 then (some (x5 ++ [(⟨x229000, x229001, x229002, x229003, x229004⟩ : S27)])) else (none)))
def impl_SetPut.j1 : Nat → List (S27) → Bool → List (S27) → Int → Int → Bool → Int → Int → Int → Int → Int → Int → Int → Int → Int → Int → Option ((List (S27)))
 | 0, _, _, _, _, _, _, _, _, _, _, _, _, _, _, _, _ => none
 | k + 1, x5, x6, x10, x11, x12, x23, x229000, x229001, x229002, x229003, x229004, x237000, x237001, x237002, x237003, x237004 => if x23 = true then (if x5.length < 3518437208883 then ((some (x5 ++ [(⟨x229000, x229001, x229002, x229003, x229004⟩ : S27)] : List (S27))).bind fun y238 => ((impl_SameSpot.f x237000 x237001 x237002 x237003 x237004 x229000 x229001 x229002 x229003 x229004).bind fun t241 => (if t241 = true then (impl_SetPut.l0 k y238 true x10 x11 (wrap64 (x12 + 1)) x229000 x229001 x229002 x229003 x229004) else (if y238.length < 3518437208883 then (impl_SetPut.l0 k (y238 ++ [(⟨x237000, x237001, x237002, x237003, x237004⟩ : S27)]) true x10 x11 (wrap64 (x12 + 1)) x229000 x229001 x229002 x229003 x229004) else (none))))) else (none)) else ((impl_SameSpot.f x237000 x237001 x237002 x237003 x237004 x229000 x229001 x229002 x229003 x229004).bind fun t245 => (if t245 = true then (impl_SetPut.l0 k x5 x6 x10 x11 (wrap64 (x12 + 1)) x229000 x229001 x229002 x229003 x229004) else (if x5.length < 3518437208883 then (impl_SetPut.l0 k (x5 ++ [(⟨x237000, x237001, x237002, x237003, x237004⟩ : S27)]) x6 x10 x11 (wrap64 (x12 + 1)) x229000 x229001 x229002 x229003 x229004) else (none))))
end
def impl_SetPut.f (k : Nat) (l0 : List (S27)) (a1_0 : Int) (a1_1 : Int) (a1_2 : Int) (a1_3 : Int) (a1_4 : Int) : Option ((List (S27))) := impl_SetPut.l0 k (([] : List (S27))) false l0 (l0.length : Int) 0 a1_0 a1_1 a1_2 a1_3 a1_4
set_option maxHeartbeats 8000000 in
set_option maxRecDepth 100000 in
theorem impl_SetPut.calls (k : Nat) (A0 : Option Addr) (c0 : Nat) (l0 : List (S27)) (a1_0 : Int) (a1_1 : Int) (a1_2 : Int) (a1_3 : Int) (a1_4 : Int) (r : List (S27)) (w : World) (hr0 : Kd.C k27 w A0 l0.length l0) (hc0 : l0.length ≤ c0) (h : impl_SetPut.f k l0 a1_0 a1_1 a1_2 a1_3 a1_4 = some r) :
  Calls Try.prog 53 #[.slice A0 l0.length c0, .agg #[.int .i64 a1_0, .int .i64 a1_1, .int .i64 a1_2, .int .i64 a1_3, .int .i64 a1_4]] w fun e w' => ∃ v0_ : Value, e = .returned (v0_) ∧ Kd.R k27 27 w' w.heap.size (fun _ => True) v0_ r ∧ Below w.heap.size w w' := by
 have hu27 := Try.underlying27
 have HR0 := aA.mk hr0
 have HC0 := aA.mk hc0
 clear hr0 hc0
 have HB := aA.mk (Below.refl w.heap.size w)
 have H : (impl_SetPut.l0 k (([] : List (S27))) false l0 (l0.length : Int) 0 a1_0 a1_1 a1_2 a1_3 a1_4) = some r := h
 clear h
 obtain ⟨y229, hy229⟩ : ∃ y_ : List (S27), y_ = (([] : List (S27))) := ⟨_, rfl⟩
 replace H : (impl_SetPut.l0 k y229 false l0 (l0.length : Int) 0 a1_0 a1_1 a1_2 a1_3 a1_4) = some r := by first | (rw [hy229]; with_reducible exact H) | (have H2_ := (Option.bind_some _ _).symm.trans H; rw [hy229]; with_reducible exact H2_) | (have H2_ := (Option.bind_some _ _).symm.trans H; with_reducible exact H2_) | with_reducible exact H | (rw [hy229]; exact H) | exact H
 have Ny229 := aA.mk hy229
 clear hy229
 have H' := aA.mk H
 clear H
 go_enter Try.func53, Try.ntmps53
 go_wp2_with (first | ((with_reducible refine bL (N := 3) rfl ?_); refine bM ?hg (N := 3) ?hd (cs := #[.int .i64 a1_0, .int .i64 a1_1, .int .i64 a1_2, .int .i64 a1_3, .int .i64 a1_4]) (t := 27) ?hr ?_; (case hd => rfl); (case hg => rfl); (case hr => first | (go_simp; done) | (go_simp; rfl)); intro gb228 hg w3 hbox hb; have n0_ := aA.mk (aX (by repeat (first | (with_reducible first | exact HB.out | apply aH | apply aE | apply aG) | exact HB.out)) hb); have n1_ := aA.mk (hbox); have n2_ := aA.mk ((by rw [hg]; exact (aW (by repeat (first | (with_reducible first | exact HB.out | apply aH | apply aE | apply aG) | exact HB.out))) : w.heap.size ≤ gb228)); have n3_ := aA.mk ((by rw [hg]; exact (aW (by repeat (first | (with_reducible first | exact HB.out | apply aH | apply aE | apply aG) | exact HB.out))) : w.heap.size ≤ gb228)); clear HB; have HB := n0_; have BK228 := n1_; have GW228 := n2_; have GE228 := n3_; clear n0_ n1_ n2_ n3_; clear hb hbox hg) | ((with_reducible refine bL (N := 9) rfl ?_); refine Kd.R_lit k27 _ 27 ?hg (N := 9) ?hd (xs := ([] : List (S27))) (inner := []) (ok := fun _ => True) (okp := fun _ => True) ?hr ?hp (fun _ hk => hk) trivial (Below.refl _ _) (Nat.le_refl _) (by simp) ?_; (case hd => rfl); (case hg => rfl); (case hr => first | (go_simp; done) | (go_simp; rfl)); (case hp => exact (Reps.none _ _)); intro v230 w4 ho5 hb hg_ hnew_; clear hg_ hnew_; (first | rw [← Ny229.out] at ho5 | (simp only [Int.reduceToNat] at ho5; rw [← Ny229.out] at ho5)); have n0_ := aA.mk (Kd.R_lower (Kd.R_newB ho5 (g := gb228) (o := .cells #[.int .i64 a1_0, .int .i64 a1_1, .int .i64 a1_2, .int .i64 a1_3, .int .i64 a1_4] 27 (0, 0)) (by (with_reducible repeat (first | refine aJ ?_ _ | refine aM ?_ | refine aK ?_ _)); exact BK228.out)) (aW (by repeat (first | (with_reducible first | exact HB.out | apply aH | apply aE | apply aG | refine aN ?_ GE228.out) | exact HB.out)))); have n1_ := aA.mk (bE (g := gb228) (o := .cells #[.int .i64 a1_0, .int .i64 a1_1, .int .i64 a1_2, .int .i64 a1_3, .int .i64 a1_4] 27 (0, 0)) (by (with_reducible repeat (first | refine aJ ?_ _ | refine aM ?_ | refine aK ?_ _)); exact BK228.out) hb); have n2_ := aA.mk (aX (by repeat (first | (with_reducible first | exact HB.out | apply aH | apply aE | apply aG | refine aN ?_ GE228.out) | exact HB.out)) hb); clear BK228; clear HB; have HO231 := n0_; have BK228 := n1_; have HB := n2_; clear n0_ n1_ n2_; clear hb ho5))
 go_loopg [5, 6, 12] k (fun kq v5 v6 v12 w' => ∃ (x5_1 : List (S27)) (x6_1 : Bool) (x12_1 : Int), v6 = .bool x6_1 ∧ v12 = .int .i64 x12_1 ∧ aA (impl_SetPut.l0 kq x5_1 x6_1 l0 (l0.length : Int) x12_1 a1_0 a1_1 a1_2 a1_3 a1_4 = some r) ∧ aA (kq ≤ k) ∧ aA (Kd.R k27 27 w' w.heap.size (fun k_ => k_ ≠ gb228) v5 x5_1) ∧ aA (w'.heap[gb228]? = some (.cells #[.int .i64 a1_0, .int .i64 a1_1, .int .i64 a1_2, .int .i64 a1_3, .int .i64 a1_4] 27 (0, 0))) ∧ aA (Below w.heap.size w w'))
 case atStart => exact ⟨(y229), (false), (0), (by first | rfl | (simp; done) | (simp [*]; done)), (by first | rfl | (simp; done) | (simp [*]; done)), H', ⟨Nat.le_refl _⟩, ⟨by (with_reducible repeat (first | apply Kd.bC | apply Kd.bD | apply Kd.aY)); exact Kd.R_mono HO231.out (fun _ hk => hk.2)⟩, ⟨by (with_reducible repeat (first | refine aJ ?_ _ | refine aM ?_ | refine aK ?_ _)); exact BK228.out⟩, ⟨by repeat (first | (with_reducible first | exact HB.out | apply aH | apply aE | apply aG | refine aN ?_ GE228.out) | exact HB.out)⟩⟩
 case round =>
  clear H'
  try clear p2
  try clear c5
  obtain ⟨x5_1, x6_1, x12_1, rfl, rfl, HA, HK1, HO_5, BK228, HB⟩ := hrel
  cases gk with
  | zero => exact absurd HA.out (by simp [impl_SetPut.l0])
  | succ k1 =>
   have H := HA.out
   clear HA
   simp only [impl_SetPut.l0] at H
   by_cases c6 : x12_1 < (l0.length : Int)
   ·rw [if_pos c6] at H
    have c6b0 : decide (x12_1 < (l0.length : Int)) = true := decide_eq_true c6
    clear c6
    by_cases c7 : 0 ≤ x12_1
    ·rw [if_pos c7] at H
     have c7b0 : decide (0 ≤ x12_1) = true := decide_eq_true c7
     clear c7
     by_cases c8 : x12_1 < (l0.length : Int)
     ·rw [if_pos c8] at H
      have c8b0 : decide (x12_1 < (l0.length : Int)) = true := decide_eq_true c8
      clear c8
      have HC9 := aA.mk H
      clear H
      have p235 : 0 ≤ (x12_1 : Int) := lE (by first | (with_reducible assumption) | assumption)
      have q235 : x12_1 < (l0.length : Int) := lE (by first | (with_reducible assumption) | assumption)
      obtain ⟨ad235, e235, hx235_0, hx235_1, hx235_2, hx235_3, hx235_4⟩ := at_T27 HR0.out x12_1 p235 q235
      cases e235
      replace hx235_0 := (HB.out.cell (lD w _ hx235_0)).trans hx235_0
      replace hx235_1 := (HB.out.cell (lD w _ hx235_1)).trans hx235_1
      replace hx235_2 := (HB.out.cell (lD w _ hx235_2)).trans hx235_2
      replace hx235_3 := (HB.out.cell (lD w _ hx235_3)).trans hx235_3
      replace hx235_4 := (HB.out.cell (lD w _ hx235_4)).trans hx235_4
      replace p235 := eq_true p235
      replace q235 := eq_true q235
      go_upto_region 6 with (first | ((with_reducible refine bL (N := 8) rfl ?_); refine bM ?hg (N := 8) ?hd (cs := #[.int .i64 0, .int .i64 0, .int .i64 0, .int .i64 0, .int .i64 0]) (t := 27) ?hr ?_; (case hd => rfl); (case hg => rfl); (case hr => first | (go_simp; done) | (go_simp; rfl)); intro gb236 hg w10 hbox hb; have n0_ := aA.mk (Kd.bB (Kd.R_elderB (by (with_reducible repeat (first | apply Kd.bC | apply Kd.bD | apply Kd.aY)); exact HO_5.out) gb236 (Nat.le_of_eq hg.symm)) hb); have n1_ := aA.mk (bE (g := gb228) (o := .cells #[.int .i64 a1_0, .int .i64 a1_1, .int .i64 a1_2, .int .i64 a1_3, .int .i64 a1_4] 27 (0, 0)) (by (with_reducible repeat (first | refine aJ ?_ _ | refine aM ?_ | refine aK ?_ _)); exact BK228.out) hb); have n2_ := aA.mk (aX (by repeat (first | (with_reducible first | exact HB.out | apply aH | apply aE | apply aG | refine aN ?_ GE228.out) | exact HB.out)) hb); have n3_ := aA.mk (hbox); have n4_ := aA.mk ((by rw [hg]; exact (aW (by repeat (first | (with_reducible first | exact HB.out | apply aH | apply aE | apply aG | refine aN ?_ GE228.out) | exact HB.out))) : w.heap.size ≤ gb236)); have n5_ := aA.mk ((by rw [hg]; exact (aW (by repeat (first | (with_reducible first | exact HB.out | apply aH | apply aE | apply aG | refine aN ?_ GE228.out) | exact HB.out))) : w.heap.size ≤ gb236)); have n6_ := aA.mk ((by rw [hg]; exact Nat.ne_of_lt (blk_lt (g := gb228) (o := .cells #[.int .i64 a1_0, .int .i64 a1_1, .int .i64 a1_2, .int .i64 a1_3, .int .i64 a1_4] 27 (0, 0)) (by (with_reducible repeat (first | refine aJ ?_ _ | refine aM ?_ | refine aK ?_ _)); exact BK228.out)) : gb228 ≠ gb236)); have n7_ := aA.mk ((by rw [hg]; exact Nat.ne_of_gt (blk_lt (g := gb228) (o := .cells #[.int .i64 a1_0, .int .i64 a1_1, .int .i64 a1_2, .int .i64 a1_3, .int .i64 a1_4] 27 (0, 0)) (by (with_reducible repeat (first | refine aJ ?_ _ | refine aM ?_ | refine aK ?_ _)); exact BK228.out)) : gb236 ≠ gb228)); clear HO_5; clear BK228; clear HB; have HO_5 := n0_; have BK228 := n1_; have HB := n2_; have BK236 := n3_; have GW236 := n4_; have GE236 := n5_; have NB228_236 := n6_; have NB236_228 := n7_; clear n0_ n1_ n2_ n3_ n4_ n5_ n6_ n7_; clear hb hbox hg; have hnb11 := NB236_228.out; have hnc11 := NB228_236.out; have hcz12_0 : w10.cell? ⟨gb236, 0, none⟩ = some (.int .i64 0) := (aC BK236.out 0).trans rfl; have hcz12_1 : w10.cell? ⟨gb236, 1, none⟩ = some (.int .i64 0) := (aC BK236.out 1).trans rfl; have hcz12_2 : w10.cell? ⟨gb236, 2, none⟩ = some (.int .i64 0) := (aC BK236.out 2).trans rfl; have hcz12_3 : w10.cell? ⟨gb236, 3, none⟩ = some (.int .i64 0) := (aC BK236.out 3).trans rfl; have hcz12_4 : w10.cell? ⟨gb236, 4, none⟩ = some (.int .i64 0) := (aC BK236.out 4).trans rfl; have hfz12_0 := aD BK236.out 0; have hfz12_1 := aD BK236.out 1; have hfz12_2 := aD BK236.out 2; have hfz12_3 := aD BK236.out 3; have hfz12_4 := aD BK236.out 4))
      (try simp only [Act.put, lA, lB, lC])
      go_cut [23] (fun v23 wc => ∃ (kq : Nat) (x23_8 : Bool), v23 = .bool x23_8 ∧ aA (impl_SetPut.j1 kq x5_1 x6_1 l0 (l0.length : Int) x12_1 x23_8 a1_0 a1_1 a1_2 a1_3 a1_4 ((rd_T27 l0 x12_1).f0) ((rd_T27 l0 x12_1).f1) ((rd_T27 l0 x12_1).f2) ((rd_T27 l0 x12_1).f3) ((rd_T27 l0 x12_1).f4) = some r) ∧ aA (kq ≤ k1) ∧ aA (Kd.R k27 27 wc w.heap.size (fun k_ => k_ ≠ gb228 ∧ k_ ≠ gb236) u5 x5_1) ∧ aA (wc.heap[gb228]? = some (.cells #[.int .i64 a1_0, .int .i64 a1_1, .int .i64 a1_2, .int .i64 a1_3, .int .i64 a1_4] 27 (0, 0))) ∧ aA (wc.heap[gb236]? = some (.cells #[.int .i64 ((rd_T27 l0 x12_1).f0), .int .i64 ((rd_T27 l0 x12_1).f1), .int .i64 ((rd_T27 l0 x12_1).f2), .int .i64 ((rd_T27 l0 x12_1).f3), .int .i64 ((rd_T27 l0 x12_1).f4)] 27 (0, 0))) ∧ aA (Below w.heap.size w wc))
      case first =>
       have H := HC9.out
       clear HC9
       by_cases c13 : x6_1 = true
       ·subst c13
        have H1 : (impl_SetPut.j1 k1 x5_1 true l0 (l0.length : Int) x12_1 false a1_0 a1_1 a1_2 a1_3 a1_4 ((rd_T27 l0 x12_1).f0) ((rd_T27 l0 x12_1).f1) ((rd_T27 l0 x12_1).f2) ((rd_T27 l0 x12_1).f3) ((rd_T27 l0 x12_1).f4)) = some r := by rw [if_pos rfl] at H; exact H
        clear H
        have H := H1
        clear H1
        have H' := aA.mk H
        clear H
        go_wp2
        go_meet
        case rel => exact ⟨_, (false), (by first | rfl | (simp; done) | (simp [*]; done)), H', ⟨by have := HK1.out; first | omega | exact Nat.le_refl _⟩, ⟨by (with_reducible repeat (first | apply Kd.bC | apply Kd.bD | apply Kd.aY)); exact Kd.R_mono (Kd.R_far (p := ⟨gb236, 4, none⟩) (Kd.R_far (p := ⟨gb236, 3, none⟩) (Kd.R_far (p := ⟨gb236, 2, none⟩) (Kd.R_far (p := ⟨gb236, 1, none⟩) (Kd.R_far (p := ⟨gb236, 0, none⟩) (Kd.R_mono HO_5.out (fun k_ hk => (⟨hk, hk.2⟩ : _ ∧ k_ ≠ gb236))) (fun _ hk => hk.2) (.int .i64 ((rd_T27 l0 x12_1).f0))) (fun _ hk => hk.2) (.int .i64 ((rd_T27 l0 x12_1).f1))) (fun _ hk => hk.2) (.int .i64 ((rd_T27 l0 x12_1).f2))) (fun _ hk => hk.2) (.int .i64 ((rd_T27 l0 x12_1).f3))) (fun _ hk => hk.2) (.int .i64 ((rd_T27 l0 x12_1).f4))) (fun _ hk => ⟨hk.1.1, hk.1.2⟩)⟩, ⟨by (with_reducible repeat (first | refine aJ ?_ _ | refine aM ?_ | refine aK ?_ _)); refine blk_far ?_ NB228_236.out _; (with_reducible repeat (first | refine aJ ?_ _ | refine aM ?_ | refine aK ?_ _)); refine blk_far ?_ NB228_236.out _; (with_reducible repeat (first | refine aJ ?_ _ | refine aM ?_ | refine aK ?_ _)); refine blk_far ?_ NB228_236.out _; (with_reducible repeat (first | refine aJ ?_ _ | refine aM ?_ | refine aK ?_ _)); refine blk_far ?_ NB228_236.out _; (with_reducible repeat (first | refine aJ ?_ _ | refine aM ?_ | refine aK ?_ _)); refine blk_far ?_ NB228_236.out _; (with_reducible repeat (first | refine aJ ?_ _ | refine aM ?_ | refine aK ?_ _)); exact BK228.out⟩, ⟨by (with_reducible repeat (first | refine aJ ?_ _ | refine aM ?_ | refine aK ?_ _)); refine aZ (cs := #[.int .i64 ((rd_T27 l0 x12_1).f0), .int .i64 ((rd_T27 l0 x12_1).f1), .int .i64 ((rd_T27 l0 x12_1).f2), .int .i64 ((rd_T27 l0 x12_1).f3), .int .i64 0]) ?_ 4 _ rfl; (with_reducible repeat (first | refine aJ ?_ _ | refine aM ?_ | refine aK ?_ _)); refine aZ (cs := #[.int .i64 ((rd_T27 l0 x12_1).f0), .int .i64 ((rd_T27 l0 x12_1).f1), .int .i64 ((rd_T27 l0 x12_1).f2), .int .i64 0, .int .i64 0]) ?_ 3 _ rfl; (with_reducible repeat (first | refine aJ ?_ _ | refine aM ?_ | refine aK ?_ _)); refine aZ (cs := #[.int .i64 ((rd_T27 l0 x12_1).f0), .int .i64 ((rd_T27 l0 x12_1).f1), .int .i64 0, .int .i64 0, .int .i64 0]) ?_ 2 _ rfl; (with_reducible repeat (first | refine aJ ?_ _ | refine aM ?_ | refine aK ?_ _)); refine aZ (cs := #[.int .i64 ((rd_T27 l0 x12_1).f0), .int .i64 0, .int .i64 0, .int .i64 0, .int .i64 0]) ?_ 1 _ rfl; (with_reducible repeat (first | refine aJ ?_ _ | refine aM ?_ | refine aK ?_ _)); refine aZ (cs := #[.int .i64 0, .int .i64 0, .int .i64 0, .int .i64 0, .int .i64 0]) ?_ 0 _ rfl; (with_reducible repeat (first | refine aJ ?_ _ | refine aM ?_ | refine aK ?_ _)); exact BK236.out⟩, ⟨by repeat (first | (with_reducible first | exact HB.out | apply aH | apply aE | apply aG | refine aN ?_ GE228.out | refine aN ?_ GE236.out) | exact HB.out)⟩⟩
       ·replace c13 := Bool.eq_false_iff.mpr c13
        subst c13
        have H1 : ((impl_LessKey.f ((rd_T27 l0 x12_1).f0) ((rd_T27 l0 x12_1).f1) ((rd_T27 l0 x12_1).f2) ((rd_T27 l0 x12_1).f3) ((rd_T27 l0 x12_1).f4) a1_0 a1_1 a1_2 a1_3 a1_4).bind fun t237 => (impl_SetPut.j1 k1 x5_1 false l0 (l0.length : Int) x12_1 (!t237) a1_0 a1_1 a1_2 a1_3 a1_4 ((rd_T27 l0 x12_1).f0) ((rd_T27 l0 x12_1).f1) ((rd_T27 l0 x12_1).f2) ((rd_T27 l0 x12_1).f3) ((rd_T27 l0 x12_1).f4))) = some r := by rw [if_neg (show ¬ (false = true) by decide)] at H; exact H
        clear H
        have H := H1
        clear H1
        replace H := lF H
        obtain ⟨t237, A140, H⟩ := H
        replace H : (impl_SetPut.j1 k1 x5_1 false l0 (l0.length : Int) x12_1 (!t237) a1_0 a1_1 a1_2 a1_3 a1_4 ((rd_T27 l0 x12_1).f0) ((rd_T27 l0 x12_1).f1) ((rd_T27 l0 x12_1).f2) ((rd_T27 l0 x12_1).f3) ((rd_T27 l0 x12_1).f4)) = some r := H
        have A14 := aA.mk A140
        clear A140
        have H' := aA.mk H
        clear H
        have hnb15 := NB236_228.out
        have hnc15 := NB228_236.out
        have hcz16_0 : w10.cell? ⟨gb236, 0, none⟩ = some (.int .i64 0) := (aC BK236.out 0).trans rfl
        have hcz16_1 : w10.cell? ⟨gb236, 1, none⟩ = some (.int .i64 0) := (aC BK236.out 1).trans rfl
        have hcz16_2 : w10.cell? ⟨gb236, 2, none⟩ = some (.int .i64 0) := (aC BK236.out 2).trans rfl
        have hcz16_3 : w10.cell? ⟨gb236, 3, none⟩ = some (.int .i64 0) := (aC BK236.out 3).trans rfl
        have hcz16_4 : w10.cell? ⟨gb236, 4, none⟩ = some (.int .i64 0) := (aC BK236.out 4).trans rfl
        have hfz16_0 := aD BK236.out 0
        have hfz16_1 := aD BK236.out 1
        have hfz16_2 := aD BK236.out 2
        have hfz16_3 := aD BK236.out 3
        have hfz16_4 := aD BK236.out 4
        have hcz17_0 : w10.cell? ⟨gb228, 0, none⟩ = some (.int .i64 a1_0) := (aC BK228.out 0).trans rfl
        have hcz17_1 : w10.cell? ⟨gb228, 1, none⟩ = some (.int .i64 a1_1) := (aC BK228.out 1).trans rfl
        have hcz17_2 : w10.cell? ⟨gb228, 2, none⟩ = some (.int .i64 a1_2) := (aC BK228.out 2).trans rfl
        have hcz17_3 : w10.cell? ⟨gb228, 3, none⟩ = some (.int .i64 a1_3) := (aC BK228.out 3).trans rfl
        have hcz17_4 : w10.cell? ⟨gb228, 4, none⟩ = some (.int .i64 a1_4) := (aC BK228.out 4).trans rfl
        have hfz17_0 := aD BK228.out 0
        have hfz17_1 := aD BK228.out 1
        have hfz17_2 := aD BK228.out 2
        have hfz17_3 := aD BK228.out 3
        have hfz17_4 := aD BK228.out 4
        go_wp2_with (first | (go_at_call 28; (with_reducible refine (impl_LessKey.calls ((rd_T27 l0 x12_1).f0) ((rd_T27 l0 x12_1).f1) ((rd_T27 l0 x12_1).f2) ((rd_T27 l0 x12_1).f3) ((rd_T27 l0 x12_1).f4) a1_0 a1_1 a1_2 a1_3 a1_4 t237 _ A14.out).mono ?_); rintro e w18 ⟨rfl, hb⟩; have n0_ := aA.mk (Kd.bB (by (with_reducible repeat (first | apply Kd.bC | apply Kd.bD | apply Kd.aY)); exact (Kd.R_mono (Kd.R_far (p := ⟨gb236, 4, none⟩) (Kd.R_far (p := ⟨gb236, 3, none⟩) (Kd.R_far (p := ⟨gb236, 2, none⟩) (Kd.R_far (p := ⟨gb236, 1, none⟩) (Kd.R_far (p := ⟨gb236, 0, none⟩) (Kd.R_mono HO_5.out (fun k_ hk => (⟨hk, hk.2⟩ : _ ∧ k_ ≠ gb236))) (fun _ hk => hk.2) (.int .i64 ((rd_T27 l0 x12_1).f0))) (fun _ hk => hk.2) (.int .i64 ((rd_T27 l0 x12_1).f1))) (fun _ hk => hk.2) (.int .i64 ((rd_T27 l0 x12_1).f2))) (fun _ hk => hk.2) (.int .i64 ((rd_T27 l0 x12_1).f3))) (fun _ hk => hk.2) (.int .i64 ((rd_T27 l0 x12_1).f4))) (fun _ h_ => h_.1))) hb); have n1_ := aA.mk (bE (g := gb228) (o := .cells #[.int .i64 a1_0, .int .i64 a1_1, .int .i64 a1_2, .int .i64 a1_3, .int .i64 a1_4] 27 (0, 0)) (by (with_reducible repeat (first | refine aJ ?_ _ | refine aM ?_ | refine aK ?_ _)); refine blk_far ?_ NB228_236.out _; (with_reducible repeat (first | refine aJ ?_ _ | refine aM ?_ | refine aK ?_ _)); refine blk_far ?_ NB228_236.out _; (with_reducible repeat (first | refine aJ ?_ _ | refine aM ?_ | refine aK ?_ _)); refine blk_far ?_ NB228_236.out _; (with_reducible repeat (first | refine aJ ?_ _ | refine aM ?_ | refine aK ?_ _)); refine blk_far ?_ NB228_236.out _; (with_reducible repeat (first | refine aJ ?_ _ | refine aM ?_ | refine aK ?_ _)); refine blk_far ?_ NB228_236.out _; (with_reducible repeat (first | refine aJ ?_ _ | refine aM ?_ | refine aK ?_ _)); exact BK228.out) hb); have n2_ := aA.mk (bE (g := gb236) (o := .cells #[.int .i64 ((rd_T27 l0 x12_1).f0), .int .i64 ((rd_T27 l0 x12_1).f1), .int .i64 ((rd_T27 l0 x12_1).f2), .int .i64 ((rd_T27 l0 x12_1).f3), .int .i64 ((rd_T27 l0 x12_1).f4)] 27 (0, 0)) (by (with_reducible repeat (first | refine aJ ?_ _ | refine aM ?_ | refine aK ?_ _)); refine aZ (cs := #[.int .i64 ((rd_T27 l0 x12_1).f0), .int .i64 ((rd_T27 l0 x12_1).f1), .int .i64 ((rd_T27 l0 x12_1).f2), .int .i64 ((rd_T27 l0 x12_1).f3), .int .i64 0]) ?_ 4 _ rfl; (with_reducible repeat (first | refine aJ ?_ _ | refine aM ?_ | refine aK ?_ _)); refine aZ (cs := #[.int .i64 ((rd_T27 l0 x12_1).f0), .int .i64 ((rd_T27 l0 x12_1).f1), .int .i64 ((rd_T27 l0 x12_1).f2), .int .i64 0, .int .i64 0]) ?_ 3 _ rfl; (with_reducible repeat (first | refine aJ ?_ _ | refine aM ?_ | refine aK ?_ _)); refine aZ (cs := #[.int .i64 ((rd_T27 l0 x12_1).f0), .int .i64 ((rd_T27 l0 x12_1).f1), .int .i64 0, .int .i64 0, .int .i64 0]) ?_ 2 _ rfl; (with_reducible repeat (first | refine aJ ?_ _ | refine aM ?_ | refine aK ?_ _)); refine aZ (cs := #[.int .i64 ((rd_T27 l0 x12_1).f0), .int .i64 0, .int .i64 0, .int .i64 0, .int .i64 0]) ?_ 1 _ rfl; (with_reducible repeat (first | refine aJ ?_ _ | refine aM ?_ | refine aK ?_ _)); refine aZ (cs := #[.int .i64 0, .int .i64 0, .int .i64 0, .int .i64 0, .int .i64 0]) ?_ 0 _ rfl; (with_reducible repeat (first | refine aJ ?_ _ | refine aM ?_ | refine aK ?_ _)); exact BK236.out) hb); have n3_ := aA.mk (aX (by repeat (first | (with_reducible first | exact HB.out | apply aH | apply aE | apply aG | refine aN ?_ GE228.out | refine aN ?_ GE236.out) | exact HB.out)) hb); clear HO_5; clear BK228; clear BK236; clear HB; have HO_5 := n0_; have BK228 := n1_; have BK236 := n2_; have HB := n3_; clear n0_ n1_ n2_ n3_; (try clear hb); (try clear hk)))
        go_meet
        case rel => exact ⟨_, (!t237), (by first | rfl | (simp; done) | (simp [*]; done)), H', ⟨by have := HK1.out; first | omega | exact Nat.le_refl _⟩, ⟨by (with_reducible repeat (first | apply Kd.bC | apply Kd.bD | apply Kd.aY)); exact HO_5.out⟩, ⟨by (with_reducible repeat (first | refine aJ ?_ _ | refine aM ?_ | refine aK ?_ _)); exact BK228.out⟩, ⟨by (with_reducible repeat (first | refine aJ ?_ _ | refine aM ?_ | refine aK ?_ _)); exact BK236.out⟩, ⟨by repeat (first | (with_reducible first | exact HB.out | apply aH | apply aE | apply aG | refine aN ?_ GE228.out | refine aN ?_ GE236.out) | exact HB.out)⟩⟩
      case rest =>
       clear HC9
       try clear c1
       try clear p2
       try clear q2
       try clear hx2
       try clear c5
       try clear c6
       try clear c6b0
       try clear c7
       try clear c7b0
       try clear c8
       try clear c8b0
       try clear c11
       try clear c13
       try clear c15
       try clear hcz12_0
       try clear hcz12_1
       try clear hcz12_2
       try clear hcz12_3
       try clear hcz12_4
       try clear hcz16_0
       try clear hcz16_1
       try clear hcz16_2
       try clear hcz16_3
       try clear hcz16_4
       try clear hcz17_0
       try clear hcz17_1
       try clear hcz17_2
       try clear hcz17_3
       try clear hcz17_4
       try clear hfz12_0
       try clear hfz12_1
       try clear hfz12_2
       try clear hfz12_3
       try clear hfz12_4
       try clear hfz16_0
       try clear hfz16_1
       try clear hfz16_2
       try clear hfz16_3
       try clear hfz16_4
       try clear hfz17_0
       try clear hfz17_1
       try clear hfz17_2
       try clear hfz17_3
       try clear hfz17_4
       try clear hx235_0
       try clear hx235_1
       try clear hx235_2
       try clear hx235_3
       try clear hx235_4
       try clear p2
       try clear p235
       try clear q235
       obtain ⟨kq, x23_8, rfl, HA, HJ8, HO_5, BK228, BK236, HB⟩ := hcut
       cases kq with
       | zero => exact absurd HA.out (by simp [impl_SetPut.j1])
       | succ kj8 =>
        have H := HA.out
        clear HA
        simp only [impl_SetPut.j1] at H
        by_cases c19 : x23_8 = true
        ·subst c19
         have H1 : (if x5_1.length < 3518437208883 then ((some (x5_1 ++ [(⟨a1_0, a1_1, a1_2, a1_3, a1_4⟩ : S27)] : List (S27))).bind fun y238 => ((impl_SameSpot.f ((rd_T27 l0 x12_1).f0) ((rd_T27 l0 x12_1).f1) ((rd_T27 l0 x12_1).f2) ((rd_T27 l0 x12_1).f3) ((rd_T27 l0 x12_1).f4) a1_0 a1_1 a1_2 a1_3 a1_4).bind fun t241 => (if t241 = true then (impl_SetPut.l0 kj8 y238 true l0 (l0.length : Int) (wrap64 (x12_1 + 1)) a1_0 a1_1 a1_2 a1_3 a1_4) else (if y238.length < 3518437208883 then (impl_SetPut.l0 kj8 (y238 ++ [(⟨((rd_T27 l0 x12_1).f0), ((rd_T27 l0 x12_1).f1), ((rd_T27 l0 x12_1).f2), ((rd_T27 l0 x12_1).f3), ((rd_T27 l0 x12_1).f4)⟩ : S27)]) true l0 (l0.length : Int) (wrap64 (x12_1 + 1)) a1_0 a1_1 a1_2 a1_3 a1_4) else (none))))) else (none)) = some r := by rw [if_pos rfl] at H; exact H
         clear H
         have H := H1
         clear H1
         by_cases c20 : x5_1.length < 3518437208883
         ·rw [if_pos c20] at H
          have LMc20 := aA.mk c20
          clear c20
          obtain ⟨y238, hy238⟩ : ∃ y_ : List (S27), y_ = (x5_1 ++ [(⟨a1_0, a1_1, a1_2, a1_3, a1_4⟩ : S27)]) := ⟨_, rfl⟩
          replace H : ((impl_SameSpot.f ((rd_T27 l0 x12_1).f0) ((rd_T27 l0 x12_1).f1) ((rd_T27 l0 x12_1).f2) ((rd_T27 l0 x12_1).f3) ((rd_T27 l0 x12_1).f4) a1_0 a1_1 a1_2 a1_3 a1_4).bind fun t241 => (if t241 = true then (impl_SetPut.l0 kj8 y238 true l0 (l0.length : Int) (wrap64 (x12_1 + 1)) a1_0 a1_1 a1_2 a1_3 a1_4) else (if y238.length < 3518437208883 then (impl_SetPut.l0 kj8 (y238 ++ [(⟨((rd_T27 l0 x12_1).f0), ((rd_T27 l0 x12_1).f1), ((rd_T27 l0 x12_1).f2), ((rd_T27 l0 x12_1).f3), ((rd_T27 l0 x12_1).f4)⟩ : S27)]) true l0 (l0.length : Int) (wrap64 (x12_1 + 1)) a1_0 a1_1 a1_2 a1_3 a1_4) else (none)))) = some r := by first | (rw [hy238]; with_reducible exact H) | (have H2_ := (Option.bind_some _ _).symm.trans H; rw [hy238]; with_reducible exact H2_) | (have H2_ := (Option.bind_some _ _).symm.trans H; with_reducible exact H2_) | with_reducible exact H | (rw [hy238]; exact H) | exact H
          have Ny238 := aA.mk hy238
          clear hy238
          replace H := lF H
          obtain ⟨t241, A210, H⟩ := H
          replace H : (if t241 = true then (impl_SetPut.l0 kj8 y238 true l0 (l0.length : Int) (wrap64 (x12_1 + 1)) a1_0 a1_1 a1_2 a1_3 a1_4) else (if y238.length < 3518437208883 then (impl_SetPut.l0 kj8 (y238 ++ [(⟨((rd_T27 l0 x12_1).f0), ((rd_T27 l0 x12_1).f1), ((rd_T27 l0 x12_1).f2), ((rd_T27 l0 x12_1).f3), ((rd_T27 l0 x12_1).f4)⟩ : S27)]) true l0 (l0.length : Int) (wrap64 (x12_1 + 1)) a1_0 a1_1 a1_2 a1_3 a1_4) else (none))) = some r := H
          have A21 := aA.mk A210
          clear A210
          by_cases c22 : t241 = true
          ·subst c22
           have H1 : (impl_SetPut.l0 kj8 y238 true l0 (l0.length : Int) (wrap64 (x12_1 + 1)) a1_0 a1_1 a1_2 a1_3 a1_4) = some r := by rw [if_pos rfl] at H; exact H
           clear H
           have H := H1
           clear H1
           have H' := aA.mk H
           clear H
           have hnb23 := NB228_236.out
           have hnc23 := NB236_228.out
           have hcz24_0 : wc.cell? ⟨gb228, 0, none⟩ = some (.int .i64 a1_0) := (aC BK228.out 0).trans rfl
           have hcz24_1 : wc.cell? ⟨gb228, 1, none⟩ = some (.int .i64 a1_1) := (aC BK228.out 1).trans rfl
           have hcz24_2 : wc.cell? ⟨gb228, 2, none⟩ = some (.int .i64 a1_2) := (aC BK228.out 2).trans rfl
           have hcz24_3 : wc.cell? ⟨gb228, 3, none⟩ = some (.int .i64 a1_3) := (aC BK228.out 3).trans rfl
           have hcz24_4 : wc.cell? ⟨gb228, 4, none⟩ = some (.int .i64 a1_4) := (aC BK228.out 4).trans rfl
           have hfz24_0 := aD BK228.out 0
           have hfz24_1 := aD BK228.out 1
           have hfz24_2 := aD BK228.out 2
           have hfz24_3 := aD BK228.out 3
           have hfz24_4 := aD BK228.out 4
           go_wp2_with (first | ((with_reducible refine gate_builtin (b := .append) (xs := #[.tmp 24, .tmp 26]) rfl ?_); at_builtin; refine Kd.R_append k27 (w0 := w) w.heap.size rfl (.tmp 24) (.tmp 26) 58 27 (.agg #[(.int .i64 0), (.int .i64 0), (.int .i64 0), (.int .i64 0), (.int .i64 0)]) 40 rfl Try.underlying58 info27 rfl (by decide) (by omega) u5 x5_1 (⟨a1_0, a1_1, a1_2, a1_3, a1_4⟩ : S27) [.int .i64 a1_0, .int .i64 a1_1, .int .i64 a1_2, .int .i64 a1_3, .int .i64 a1_4] (fun k_ => k_ ≠ gb228 ∧ k_ ≠ gb236) (fun _ => False) rfl rfl ?aP (fun _ hk => hk.elim) ?aF ?aO ?aB ?aS ?aL ?_; (case aP => exact k27_mkM _ _ _ (⟨a1_0, a1_1, a1_2, a1_3, a1_4⟩ : S27)); (case aB => exact (by repeat (first | (with_reducible first | exact HB.out | apply aH | apply aE | apply aG | refine aN ?_ GE228.out | refine aN ?_ GE236.out) | exact HB.out))); (case aF => exact (fun k_ hk => ⟨Kd.freshB (g := gb228) (o := .cells #[.int .i64 a1_0, .int .i64 a1_1, .int .i64 a1_2, .int .i64 a1_3, .int .i64 a1_4] 27 (0, 0)) (by (with_reducible repeat (first | refine aJ ?_ _ | refine aM ?_ | refine aK ?_ _)); exact BK228.out) k_ hk, Kd.freshB (g := gb236) (o := .cells #[.int .i64 ((rd_T27 l0 x12_1).f0), .int .i64 ((rd_T27 l0 x12_1).f1), .int .i64 ((rd_T27 l0 x12_1).f2), .int .i64 ((rd_T27 l0 x12_1).f3), .int .i64 ((rd_T27 l0 x12_1).f4)] 27 (0, 0)) (by (with_reducible repeat (first | refine aJ ?_ _ | refine aM ?_ | refine aK ?_ _)); exact BK236.out) k_ hk⟩)); (case aO => exact (by (with_reducible repeat (first | apply Kd.bC | apply Kd.bD | apply Kd.aY)); exact HO_5.out)); (case aS => exact (aW (by repeat (first | (with_reducible first | exact HB.out | apply aH | apply aE | apply aG | refine aN ?_ GE228.out | refine aN ?_ GE236.out) | exact HB.out)))); (case aL => have := LMc20.out; omega); intro v239 w25 ho hb hg hat; rw [← Ny238.out] at ho; have n0_ := aA.mk (blk_grown (g := gb228) (o := .cells #[.int .i64 a1_0, .int .i64 a1_1, .int .i64 a1_2, .int .i64 a1_3, .int .i64 a1_4] 27 (0, 0)) (by (with_reducible repeat (first | refine aJ ?_ _ | refine aM ?_ | refine aK ?_ _)); exact BK228.out) hg (Kd.R_away HO_5.out (fun _ hk => hk.1))); have n1_ := aA.mk (blk_grown (g := gb236) (o := .cells #[.int .i64 ((rd_T27 l0 x12_1).f0), .int .i64 ((rd_T27 l0 x12_1).f1), .int .i64 ((rd_T27 l0 x12_1).f2), .int .i64 ((rd_T27 l0 x12_1).f3), .int .i64 ((rd_T27 l0 x12_1).f4)] 27 (0, 0)) (by (with_reducible repeat (first | refine aJ ?_ _ | refine aM ?_ | refine aK ?_ _)); exact BK236.out) hg (Kd.R_away HO_5.out (fun _ hk => hk.2))); have n2_ := aA.mk (hb); have n3_ := aA.mk (ho); clear BK228; clear BK236; clear HB; clear HO_5; have BK228 := n0_; have BK236 := n1_; have HB := n2_; have HO240 := n3_; clear n0_ n1_ n2_ n3_; clear ho hb hg hat; have hcz26_0 : w25.cell? ⟨gb236, 0, none⟩ = some (.int .i64 ((rd_T27 l0 x12_1).f0)) := (aC BK236.out 0).trans rfl; have hcz26_1 : w25.cell? ⟨gb236, 1, none⟩ = some (.int .i64 ((rd_T27 l0 x12_1).f1)) := (aC BK236.out 1).trans rfl; have hcz26_2 : w25.cell? ⟨gb236, 2, none⟩ = some (.int .i64 ((rd_T27 l0 x12_1).f2)) := (aC BK236.out 2).trans rfl; have hcz26_3 : w25.cell? ⟨gb236, 3, none⟩ = some (.int .i64 ((rd_T27 l0 x12_1).f3)) := (aC BK236.out 3).trans rfl; have hcz26_4 : w25.cell? ⟨gb236, 4, none⟩ = some (.int .i64 ((rd_T27 l0 x12_1).f4)) := (aC BK236.out 4).trans rfl; have hfz26_0 := aD BK236.out 0; have hfz26_1 := aD BK236.out 1; have hfz26_2 := aD BK236.out 2; have hfz26_3 := aD BK236.out 3; have hfz26_4 := aD BK236.out 4; have hcz27_0 : w25.cell? ⟨gb228, 0, none⟩ = some (.int .i64 a1_0) := (aC BK228.out 0).trans rfl; have hcz27_1 : w25.cell? ⟨gb228, 1, none⟩ = some (.int .i64 a1_1) := (aC BK228.out 1).trans rfl; have hcz27_2 : w25.cell? ⟨gb228, 2, none⟩ = some (.int .i64 a1_2) := (aC BK228.out 2).trans rfl; have hcz27_3 : w25.cell? ⟨gb228, 3, none⟩ = some (.int .i64 a1_3) := (aC BK228.out 3).trans rfl; have hcz27_4 : w25.cell? ⟨gb228, 4, none⟩ = some (.int .i64 a1_4) := (aC BK228.out 4).trans rfl; have hfz27_0 := aD BK228.out 0; have hfz27_1 := aD BK228.out 1; have hfz27_2 := aD BK228.out 2; have hfz27_3 := aD BK228.out 3; have hfz27_4 := aD BK228.out 4) | ((with_reducible refine bK (f := 29) rfl ?_); refine goesL_ (some 30) rfl rfl Try.func29 (by kernel_rfl) rfl #[.agg #[.int .i64 ((rd_T27 l0 x12_1).f0), .int .i64 ((rd_T27 l0 x12_1).f1), .int .i64 ((rd_T27 l0 x12_1).f2), .int .i64 ((rd_T27 l0 x12_1).f3), .int .i64 ((rd_T27 l0 x12_1).f4)], .agg #[.int .i64 a1_0, .int .i64 a1_1, .int .i64 a1_2, .int .i64 a1_3, .int .i64 a1_4]] rfl (by (try simp only [List.map_toArray, List.map_cons, List.map_nil]); first | done | rfl | (simp only [List.length_drop, List.length_take]; rfl)) ?_; (with_reducible refine (impl_SameSpot.calls ((rd_T27 l0 x12_1).f0) ((rd_T27 l0 x12_1).f1) ((rd_T27 l0 x12_1).f2) ((rd_T27 l0 x12_1).f3) ((rd_T27 l0 x12_1).f4) a1_0 a1_1 a1_2 a1_3 a1_4 true _ A21.out).mono ?_); rintro e w28 ⟨rfl, hb⟩; refine ⟨_, rfl, ?_⟩; have n0_ := aA.mk (Kd.bB (by (with_reducible repeat (first | apply Kd.bC | apply Kd.bD | apply Kd.aY)); exact HO240.out) hb); have n1_ := aA.mk (bE (g := gb228) (o := .cells #[.int .i64 a1_0, .int .i64 a1_1, .int .i64 a1_2, .int .i64 a1_3, .int .i64 a1_4] 27 (0, 0)) (by (with_reducible repeat (first | refine aJ ?_ _ | refine aM ?_ | refine aK ?_ _)); exact BK228.out) hb); have n2_ := aA.mk (bE (g := gb236) (o := .cells #[.int .i64 ((rd_T27 l0 x12_1).f0), .int .i64 ((rd_T27 l0 x12_1).f1), .int .i64 ((rd_T27 l0 x12_1).f2), .int .i64 ((rd_T27 l0 x12_1).f3), .int .i64 ((rd_T27 l0 x12_1).f4)] 27 (0, 0)) (by (with_reducible repeat (first | refine aJ ?_ _ | refine aM ?_ | refine aK ?_ _)); exact BK236.out) hb); have n3_ := aA.mk (aX (by repeat (first | (with_reducible first | exact HB.out | apply aH | apply aE | apply aG | refine aN ?_ GE228.out | refine aN ?_ GE236.out) | exact HB.out)) hb); clear HO240; clear BK228; clear BK236; clear HB; have HO240 := n0_; have BK228 := n1_; have BK236 := n2_; have HB := n3_; clear n0_ n1_ n2_ n3_; (try clear hb); (try clear hk)))
           go_roundg kj8
           case measure => have := HK1.out; have := HJ8.out; omega
           case rel => exact ⟨(y238), (true), (wrap64 (x12_1 + 1)), (by first | rfl | (simp; done) | (simp [*]; done)), (by first | rfl | (simp; done) | (simp [*]; done)), H', ⟨by have := HK1.out; have := HJ8.out; omega⟩, ⟨by (with_reducible repeat (first | apply Kd.bC | apply Kd.bD | apply Kd.aY)); exact Kd.R_mono HO240.out (fun _ hk => hk.1)⟩, ⟨by (with_reducible repeat (first | refine aJ ?_ _ | refine aM ?_ | refine aK ?_ _)); exact BK228.out⟩, ⟨by repeat (first | (with_reducible first | exact HB.out | apply aH | apply aE | apply aG | refine aN ?_ GE228.out | refine aN ?_ GE236.out) | exact HB.out)⟩⟩
          ·replace c22 := Bool.eq_false_iff.mpr c22
           subst c22
           have H1 : (if y238.length < 3518437208883 then (impl_SetPut.l0 kj8 (y238 ++ [(⟨((rd_T27 l0 x12_1).f0), ((rd_T27 l0 x12_1).f1), ((rd_T27 l0 x12_1).f2), ((rd_T27 l0 x12_1).f3), ((rd_T27 l0 x12_1).f4)⟩ : S27)]) true l0 (l0.length : Int) (wrap64 (x12_1 + 1)) a1_0 a1_1 a1_2 a1_3 a1_4) else (none)) = some r := by rw [if_neg (show ¬ (false = true) by decide)] at H; exact H
           clear H
           have H := H1
           clear H1
           by_cases c29 : y238.length < 3518437208883
           ·rw [if_pos c29] at H
            have LMc29 := aA.mk c29
            clear c29
            obtain ⟨y242, hy242⟩ : ∃ y_ : List (S27), y_ = (y238 ++ [(⟨((rd_T27 l0 x12_1).f0), ((rd_T27 l0 x12_1).f1), ((rd_T27 l0 x12_1).f2), ((rd_T27 l0 x12_1).f3), ((rd_T27 l0 x12_1).f4)⟩ : S27)]) := ⟨_, rfl⟩
            replace H : (impl_SetPut.l0 kj8 y242 true l0 (l0.length : Int) (wrap64 (x12_1 + 1)) a1_0 a1_1 a1_2 a1_3 a1_4) = some r := by first | (rw [hy242]; with_reducible exact H) | (have H2_ := (Option.bind_some _ _).symm.trans H; rw [hy242]; with_reducible exact H2_) | (have H2_ := (Option.bind_some _ _).symm.trans H; with_reducible exact H2_) | with_reducible exact H | (rw [hy242]; exact H) | exact H
            have Ny242 := aA.mk hy242
            clear hy242
            have H' := aA.mk H
            clear H
            have hnb30 := NB228_236.out
            have hnc30 := NB236_228.out
            have hcz31_0 : wc.cell? ⟨gb228, 0, none⟩ = some (.int .i64 a1_0) := (aC BK228.out 0).trans rfl
            have hcz31_1 : wc.cell? ⟨gb228, 1, none⟩ = some (.int .i64 a1_1) := (aC BK228.out 1).trans rfl
            have hcz31_2 : wc.cell? ⟨gb228, 2, none⟩ = some (.int .i64 a1_2) := (aC BK228.out 2).trans rfl
            have hcz31_3 : wc.cell? ⟨gb228, 3, none⟩ = some (.int .i64 a1_3) := (aC BK228.out 3).trans rfl
            have hcz31_4 : wc.cell? ⟨gb228, 4, none⟩ = some (.int .i64 a1_4) := (aC BK228.out 4).trans rfl
            have hfz31_0 := aD BK228.out 0
            have hfz31_1 := aD BK228.out 1
            have hfz31_2 := aD BK228.out 2
            have hfz31_3 := aD BK228.out 3
            have hfz31_4 := aD BK228.out 4
            go_wp2_with (first | ((with_reducible refine gate_builtin (b := .append) (xs := #[.tmp 24, .tmp 26]) rfl ?_); at_builtin; refine Kd.R_append k27 (w0 := w) w.heap.size rfl (.tmp 24) (.tmp 26) 58 27 (.agg #[(.int .i64 0), (.int .i64 0), (.int .i64 0), (.int .i64 0), (.int .i64 0)]) 40 rfl Try.underlying58 info27 rfl (by decide) (by omega) u5 x5_1 (⟨a1_0, a1_1, a1_2, a1_3, a1_4⟩ : S27) [.int .i64 a1_0, .int .i64 a1_1, .int .i64 a1_2, .int .i64 a1_3, .int .i64 a1_4] (fun k_ => k_ ≠ gb228 ∧ k_ ≠ gb236) (fun _ => False) rfl rfl ?aP (fun _ hk => hk.elim) ?aF ?aO ?aB ?aS ?aL ?_; (case aP => exact k27_mkM _ _ _ (⟨a1_0, a1_1, a1_2, a1_3, a1_4⟩ : S27)); (case aB => exact (by repeat (first | (with_reducible first | exact HB.out | apply aH | apply aE | apply aG | refine aN ?_ GE228.out | refine aN ?_ GE236.out) | exact HB.out))); (case aF => exact (fun k_ hk => ⟨Kd.freshB (g := gb228) (o := .cells #[.int .i64 a1_0, .int .i64 a1_1, .int .i64 a1_2, .int .i64 a1_3, .int .i64 a1_4] 27 (0, 0)) (by (with_reducible repeat (first | refine aJ ?_ _ | refine aM ?_ | refine aK ?_ _)); exact BK228.out) k_ hk, Kd.freshB (g := gb236) (o := .cells #[.int .i64 ((rd_T27 l0 x12_1).f0), .int .i64 ((rd_T27 l0 x12_1).f1), .int .i64 ((rd_T27 l0 x12_1).f2), .int .i64 ((rd_T27 l0 x12_1).f3), .int .i64 ((rd_T27 l0 x12_1).f4)] 27 (0, 0)) (by (with_reducible repeat (first | refine aJ ?_ _ | refine aM ?_ | refine aK ?_ _)); exact BK236.out) k_ hk⟩)); (case aO => exact (by (with_reducible repeat (first | apply Kd.bC | apply Kd.bD | apply Kd.aY)); exact HO_5.out)); (case aS => exact (aW (by repeat (first | (with_reducible first | exact HB.out | apply aH | apply aE | apply aG | refine aN ?_ GE228.out | refine aN ?_ GE236.out) | exact HB.out)))); (case aL => have := LMc20.out; omega); intro v239 w32 ho hb hg hat; rw [← Ny238.out] at ho; have n0_ := aA.mk (blk_grown (g := gb228) (o := .cells #[.int .i64 a1_0, .int .i64 a1_1, .int .i64 a1_2, .int .i64 a1_3, .int .i64 a1_4] 27 (0, 0)) (by (with_reducible repeat (first | refine aJ ?_ _ | refine aM ?_ | refine aK ?_ _)); exact BK228.out) hg (Kd.R_away HO_5.out (fun _ hk => hk.1))); have n1_ := aA.mk (blk_grown (g := gb236) (o := .cells #[.int .i64 ((rd_T27 l0 x12_1).f0), .int .i64 ((rd_T27 l0 x12_1).f1), .int .i64 ((rd_T27 l0 x12_1).f2), .int .i64 ((rd_T27 l0 x12_1).f3), .int .i64 ((rd_T27 l0 x12_1).f4)] 27 (0, 0)) (by (with_reducible repeat (first | refine aJ ?_ _ | refine aM ?_ | refine aK ?_ _)); exact BK236.out) hg (Kd.R_away HO_5.out (fun _ hk => hk.2))); have n2_ := aA.mk (hb); have n3_ := aA.mk (ho); clear BK228; clear BK236; clear HB; clear HO_5; have BK228 := n0_; have BK236 := n1_; have HB := n2_; have HO240 := n3_; clear n0_ n1_ n2_ n3_; clear ho hb hg hat; have hcz33_0 : w32.cell? ⟨gb236, 0, none⟩ = some (.int .i64 ((rd_T27 l0 x12_1).f0)) := (aC BK236.out 0).trans rfl; have hcz33_1 : w32.cell? ⟨gb236, 1, none⟩ = some (.int .i64 ((rd_T27 l0 x12_1).f1)) := (aC BK236.out 1).trans rfl; have hcz33_2 : w32.cell? ⟨gb236, 2, none⟩ = some (.int .i64 ((rd_T27 l0 x12_1).f2)) := (aC BK236.out 2).trans rfl; have hcz33_3 : w32.cell? ⟨gb236, 3, none⟩ = some (.int .i64 ((rd_T27 l0 x12_1).f3)) := (aC BK236.out 3).trans rfl; have hcz33_4 : w32.cell? ⟨gb236, 4, none⟩ = some (.int .i64 ((rd_T27 l0 x12_1).f4)) := (aC BK236.out 4).trans rfl; have hfz33_0 := aD BK236.out 0; have hfz33_1 := aD BK236.out 1; have hfz33_2 := aD BK236.out 2; have hfz33_3 := aD BK236.out 3; have hfz33_4 := aD BK236.out 4; have hcz34_0 : w32.cell? ⟨gb228, 0, none⟩ = some (.int .i64 a1_0) := (aC BK228.out 0).trans rfl; have hcz34_1 : w32.cell? ⟨gb228, 1, none⟩ = some (.int .i64 a1_1) := (aC BK228.out 1).trans rfl; have hcz34_2 : w32.cell? ⟨gb228, 2, none⟩ = some (.int .i64 a1_2) := (aC BK228.out 2).trans rfl; have hcz34_3 : w32.cell? ⟨gb228, 3, none⟩ = some (.int .i64 a1_3) := (aC BK228.out 3).trans rfl; have hcz34_4 : w32.cell? ⟨gb228, 4, none⟩ = some (.int .i64 a1_4) := (aC BK228.out 4).trans rfl; have hfz34_0 := aD BK228.out 0; have hfz34_1 := aD BK228.out 1; have hfz34_2 := aD BK228.out 2; have hfz34_3 := aD BK228.out 3; have hfz34_4 := aD BK228.out 4) | ((with_reducible refine bK (f := 29) rfl ?_); refine goesL_ (some 30) rfl rfl Try.func29 (by kernel_rfl) rfl #[.agg #[.int .i64 ((rd_T27 l0 x12_1).f0), .int .i64 ((rd_T27 l0 x12_1).f1), .int .i64 ((rd_T27 l0 x12_1).f2), .int .i64 ((rd_T27 l0 x12_1).f3), .int .i64 ((rd_T27 l0 x12_1).f4)], .agg #[.int .i64 a1_0, .int .i64 a1_1, .int .i64 a1_2, .int .i64 a1_3, .int .i64 a1_4]] rfl (by (try simp only [List.map_toArray, List.map_cons, List.map_nil]); first | done | rfl | (simp only [List.length_drop, List.length_take]; rfl)) ?_; (with_reducible refine (impl_SameSpot.calls ((rd_T27 l0 x12_1).f0) ((rd_T27 l0 x12_1).f1) ((rd_T27 l0 x12_1).f2) ((rd_T27 l0 x12_1).f3) ((rd_T27 l0 x12_1).f4) a1_0 a1_1 a1_2 a1_3 a1_4 false _ A21.out).mono ?_); rintro e w35 ⟨rfl, hb⟩; refine ⟨_, rfl, ?_⟩; have n0_ := aA.mk (Kd.bB (by (with_reducible repeat (first | apply Kd.bC | apply Kd.bD | apply Kd.aY)); exact HO240.out) hb); have n1_ := aA.mk (bE (g := gb228) (o := .cells #[.int .i64 a1_0, .int .i64 a1_1, .int .i64 a1_2, .int .i64 a1_3, .int .i64 a1_4] 27 (0, 0)) (by (with_reducible repeat (first | refine aJ ?_ _ | refine aM ?_ | refine aK ?_ _)); exact BK228.out) hb); have n2_ := aA.mk (bE (g := gb236) (o := .cells #[.int .i64 ((rd_T27 l0 x12_1).f0), .int .i64 ((rd_T27 l0 x12_1).f1), .int .i64 ((rd_T27 l0 x12_1).f2), .int .i64 ((rd_T27 l0 x12_1).f3), .int .i64 ((rd_T27 l0 x12_1).f4)] 27 (0, 0)) (by (with_reducible repeat (first | refine aJ ?_ _ | refine aM ?_ | refine aK ?_ _)); exact BK236.out) hb); have n3_ := aA.mk (aX (by repeat (first | (with_reducible first | exact HB.out | apply aH | apply aE | apply aG | refine aN ?_ GE228.out | refine aN ?_ GE236.out) | exact HB.out)) hb); clear HO240; clear BK228; clear BK236; clear HB; have HO240 := n0_; have BK228 := n1_; have BK236 := n2_; have HB := n3_; clear n0_ n1_ n2_ n3_; (try clear hb); (try clear hk); have hcz36_0 : w35.cell? ⟨gb236, 0, none⟩ = some (.int .i64 ((rd_T27 l0 x12_1).f0)) := (aC BK236.out 0).trans rfl; have hcz36_1 : w35.cell? ⟨gb236, 1, none⟩ = some (.int .i64 ((rd_T27 l0 x12_1).f1)) := (aC BK236.out 1).trans rfl; have hcz36_2 : w35.cell? ⟨gb236, 2, none⟩ = some (.int .i64 ((rd_T27 l0 x12_1).f2)) := (aC BK236.out 2).trans rfl; have hcz36_3 : w35.cell? ⟨gb236, 3, none⟩ = some (.int .i64 ((rd_T27 l0 x12_1).f3)) := (aC BK236.out 3).trans rfl; have hcz36_4 : w35.cell? ⟨gb236, 4, none⟩ = some (.int .i64 ((rd_T27 l0 x12_1).f4)) := (aC BK236.out 4).trans rfl; have hfz36_0 := aD BK236.out 0; have hfz36_1 := aD BK236.out 1; have hfz36_2 := aD BK236.out 2; have hfz36_3 := aD BK236.out 3; have hfz36_4 := aD BK236.out 4) | ((with_reducible refine gate_builtin (b := .append) (xs := #[.tmp 32, .tmp 34]) rfl ?_); at_builtin; refine Kd.R_append k27 (w0 := w) w.heap.size rfl (.tmp 32) (.tmp 34) 58 27 (.agg #[(.int .i64 0), (.int .i64 0), (.int .i64 0), (.int .i64 0), (.int .i64 0)]) 40 rfl Try.underlying58 info27 rfl (by decide) (by omega) v239 y238 (⟨((rd_T27 l0 x12_1).f0), ((rd_T27 l0 x12_1).f1), ((rd_T27 l0 x12_1).f2), ((rd_T27 l0 x12_1).f3), ((rd_T27 l0 x12_1).f4)⟩ : S27) [.int .i64 ((rd_T27 l0 x12_1).f0), .int .i64 ((rd_T27 l0 x12_1).f1), .int .i64 ((rd_T27 l0 x12_1).f2), .int .i64 ((rd_T27 l0 x12_1).f3), .int .i64 ((rd_T27 l0 x12_1).f4)] (fun k_ => k_ ≠ gb228 ∧ k_ ≠ gb236) (fun _ => False) rfl rfl ?aP (fun _ hk => hk.elim) ?aF ?aO ?aB ?aS ?aL ?_; (case aP => exact k27_mkM _ _ _ (⟨((rd_T27 l0 x12_1).f0), ((rd_T27 l0 x12_1).f1), ((rd_T27 l0 x12_1).f2), ((rd_T27 l0 x12_1).f3), ((rd_T27 l0 x12_1).f4)⟩ : S27)); (case aB => exact (by repeat (first | (with_reducible first | exact HB.out | apply aH | apply aE | apply aG | refine aN ?_ GE228.out | refine aN ?_ GE236.out) | exact HB.out))); (case aF => exact (fun k_ hk => ⟨Kd.freshB (g := gb228) (o := .cells #[.int .i64 a1_0, .int .i64 a1_1, .int .i64 a1_2, .int .i64 a1_3, .int .i64 a1_4] 27 (0, 0)) (by (with_reducible repeat (first | refine aJ ?_ _ | refine aM ?_ | refine aK ?_ _)); exact BK228.out) k_ hk, Kd.freshB (g := gb236) (o := .cells #[.int .i64 ((rd_T27 l0 x12_1).f0), .int .i64 ((rd_T27 l0 x12_1).f1), .int .i64 ((rd_T27 l0 x12_1).f2), .int .i64 ((rd_T27 l0 x12_1).f3), .int .i64 ((rd_T27 l0 x12_1).f4)] 27 (0, 0)) (by (with_reducible repeat (first | refine aJ ?_ _ | refine aM ?_ | refine aK ?_ _)); exact BK236.out) k_ hk⟩)); (case aO => exact (by (with_reducible repeat (first | apply Kd.bC | apply Kd.bD | apply Kd.aY)); exact HO240.out)); (case aS => exact (aW (by repeat (first | (with_reducible first | exact HB.out | apply aH | apply aE | apply aG | refine aN ?_ GE228.out | refine aN ?_ GE236.out) | exact HB.out)))); (case aL => have := LMc29.out; omega); intro v243 w37 ho hb hg hat; rw [← Ny242.out] at ho; have n0_ := aA.mk (blk_grown (g := gb228) (o := .cells #[.int .i64 a1_0, .int .i64 a1_1, .int .i64 a1_2, .int .i64 a1_3, .int .i64 a1_4] 27 (0, 0)) (by (with_reducible repeat (first | refine aJ ?_ _ | refine aM ?_ | refine aK ?_ _)); exact BK228.out) hg (Kd.R_away HO240.out (fun _ hk => hk.1))); have n1_ := aA.mk (blk_grown (g := gb236) (o := .cells #[.int .i64 ((rd_T27 l0 x12_1).f0), .int .i64 ((rd_T27 l0 x12_1).f1), .int .i64 ((rd_T27 l0 x12_1).f2), .int .i64 ((rd_T27 l0 x12_1).f3), .int .i64 ((rd_T27 l0 x12_1).f4)] 27 (0, 0)) (by (with_reducible repeat (first | refine aJ ?_ _ | refine aM ?_ | refine aK ?_ _)); exact BK236.out) hg (Kd.R_away HO240.out (fun _ hk => hk.2))); have n2_ := aA.mk (hb); have n3_ := aA.mk (ho); clear BK228; clear BK236; clear HB; clear HO240; have BK228 := n0_; have BK236 := n1_; have HB := n2_; have HO244 := n3_; clear n0_ n1_ n2_ n3_; clear ho hb hg hat))
            go_roundg kj8
            case measure => have := HK1.out; have := HJ8.out; omega
            case rel => exact ⟨(y242), (true), (wrap64 (x12_1 + 1)), (by first | rfl | (simp; done) | (simp [*]; done)), (by first | rfl | (simp; done) | (simp [*]; done)), H', ⟨by have := HK1.out; have := HJ8.out; omega⟩, ⟨by (with_reducible repeat (first | apply Kd.bC | apply Kd.bD | apply Kd.aY)); exact Kd.R_mono HO244.out (fun _ hk => hk.1)⟩, ⟨by (with_reducible repeat (first | refine aJ ?_ _ | refine aM ?_ | refine aK ?_ _)); exact BK228.out⟩, ⟨by repeat (first | (with_reducible first | exact HB.out | apply aH | apply aE | apply aG | refine aN ?_ GE228.out | refine aN ?_ GE236.out) | exact HB.out)⟩⟩
           ·rw [if_neg c29] at H
            exact absurd H (by simp)
         ·rw [if_neg c20] at H
          exact absurd H (by simp)
        ·replace c19 := Bool.eq_false_iff.mpr c19
         subst c19
         have H1 : ((impl_SameSpot.f ((rd_T27 l0 x12_1).f0) ((rd_T27 l0 x12_1).f1) ((rd_T27 l0 x12_1).f2) ((rd_T27 l0 x12_1).f3) ((rd_T27 l0 x12_1).f4) a1_0 a1_1 a1_2 a1_3 a1_4).bind fun t245 => (if t245 = true then (impl_SetPut.l0 kj8 x5_1 x6_1 l0 (l0.length : Int) (wrap64 (x12_1 + 1)) a1_0 a1_1 a1_2 a1_3 a1_4) else (if x5_1.length < 3518437208883 then (impl_SetPut.l0 kj8 (x5_1 ++ [(⟨((rd_T27 l0 x12_1).f0), ((rd_T27 l0 x12_1).f1), ((rd_T27 l0 x12_1).f2), ((rd_T27 l0 x12_1).f3), ((rd_T27 l0 x12_1).f4)⟩ : S27)]) x6_1 l0 (l0.length : Int) (wrap64 (x12_1 + 1)) a1_0 a1_1 a1_2 a1_3 a1_4) else (none)))) = some r := by rw [if_neg (show ¬ (false = true) by decide)] at H; exact H
         clear H
         have H := H1
         clear H1
         replace H := lF H
         obtain ⟨t245, A380, H⟩ := H
         replace H : (if t245 = true then (impl_SetPut.l0 kj8 x5_1 x6_1 l0 (l0.length : Int) (wrap64 (x12_1 + 1)) a1_0 a1_1 a1_2 a1_3 a1_4) else (if x5_1.length < 3518437208883 then (impl_SetPut.l0 kj8 (x5_1 ++ [(⟨((rd_T27 l0 x12_1).f0), ((rd_T27 l0 x12_1).f1), ((rd_T27 l0 x12_1).f2), ((rd_T27 l0 x12_1).f3), ((rd_T27 l0 x12_1).f4)⟩ : S27)]) x6_1 l0 (l0.length : Int) (wrap64 (x12_1 + 1)) a1_0 a1_1 a1_2 a1_3 a1_4) else (none))) = some r := H
         have A38 := aA.mk A380
         clear A380
         by_cases c39 : t245 = true
         ·subst c39
          have H1 : (impl_SetPut.l0 kj8 x5_1 x6_1 l0 (l0.length : Int) (wrap64 (x12_1 + 1)) a1_0 a1_1 a1_2 a1_3 a1_4) = some r := by rw [if_pos rfl] at H; exact H
          clear H
          have H := H1
          clear H1
          have H' := aA.mk H
          clear H
          have hnb40 := NB236_228.out
          have hnc40 := NB228_236.out
          have hcz41_0 : wc.cell? ⟨gb236, 0, none⟩ = some (.int .i64 ((rd_T27 l0 x12_1).f0)) := (aC BK236.out 0).trans rfl
          have hcz41_1 : wc.cell? ⟨gb236, 1, none⟩ = some (.int .i64 ((rd_T27 l0 x12_1).f1)) := (aC BK236.out 1).trans rfl
          have hcz41_2 : wc.cell? ⟨gb236, 2, none⟩ = some (.int .i64 ((rd_T27 l0 x12_1).f2)) := (aC BK236.out 2).trans rfl
          have hcz41_3 : wc.cell? ⟨gb236, 3, none⟩ = some (.int .i64 ((rd_T27 l0 x12_1).f3)) := (aC BK236.out 3).trans rfl
          have hcz41_4 : wc.cell? ⟨gb236, 4, none⟩ = some (.int .i64 ((rd_T27 l0 x12_1).f4)) := (aC BK236.out 4).trans rfl
          have hfz41_0 := aD BK236.out 0
          have hfz41_1 := aD BK236.out 1
          have hfz41_2 := aD BK236.out 2
          have hfz41_3 := aD BK236.out 3
          have hfz41_4 := aD BK236.out 4
          have hcz42_0 : wc.cell? ⟨gb228, 0, none⟩ = some (.int .i64 a1_0) := (aC BK228.out 0).trans rfl
          have hcz42_1 : wc.cell? ⟨gb228, 1, none⟩ = some (.int .i64 a1_1) := (aC BK228.out 1).trans rfl
          have hcz42_2 : wc.cell? ⟨gb228, 2, none⟩ = some (.int .i64 a1_2) := (aC BK228.out 2).trans rfl
          have hcz42_3 : wc.cell? ⟨gb228, 3, none⟩ = some (.int .i64 a1_3) := (aC BK228.out 3).trans rfl
          have hcz42_4 : wc.cell? ⟨gb228, 4, none⟩ = some (.int .i64 a1_4) := (aC BK228.out 4).trans rfl
          have hfz42_0 := aD BK228.out 0
          have hfz42_1 := aD BK228.out 1
          have hfz42_2 := aD BK228.out 2
          have hfz42_3 := aD BK228.out 3
          have hfz42_4 := aD BK228.out 4
          go_wp2_with (first | ((with_reducible refine bK (f := 29) rfl ?_); refine goesL_ (some 30) rfl rfl Try.func29 (by kernel_rfl) rfl #[.agg #[.int .i64 ((rd_T27 l0 x12_1).f0), .int .i64 ((rd_T27 l0 x12_1).f1), .int .i64 ((rd_T27 l0 x12_1).f2), .int .i64 ((rd_T27 l0 x12_1).f3), .int .i64 ((rd_T27 l0 x12_1).f4)], .agg #[.int .i64 a1_0, .int .i64 a1_1, .int .i64 a1_2, .int .i64 a1_3, .int .i64 a1_4]] rfl (by (try simp only [List.map_toArray, List.map_cons, List.map_nil]); first | done | rfl | (simp only [List.length_drop, List.length_take]; rfl)) ?_; (with_reducible refine (impl_SameSpot.calls ((rd_T27 l0 x12_1).f0) ((rd_T27 l0 x12_1).f1) ((rd_T27 l0 x12_1).f2) ((rd_T27 l0 x12_1).f3) ((rd_T27 l0 x12_1).f4) a1_0 a1_1 a1_2 a1_3 a1_4 true _ A38.out).mono ?_); rintro e w43 ⟨rfl, hb⟩; refine ⟨_, rfl, ?_⟩; have n0_ := aA.mk (Kd.bB (by (with_reducible repeat (first | apply Kd.bC | apply Kd.bD | apply Kd.aY)); exact HO_5.out) hb); have n1_ := aA.mk (bE (g := gb228) (o := .cells #[.int .i64 a1_0, .int .i64 a1_1, .int .i64 a1_2, .int .i64 a1_3, .int .i64 a1_4] 27 (0, 0)) (by (with_reducible repeat (first | refine aJ ?_ _ | refine aM ?_ | refine aK ?_ _)); exact BK228.out) hb); have n2_ := aA.mk (bE (g := gb236) (o := .cells #[.int .i64 ((rd_T27 l0 x12_1).f0), .int .i64 ((rd_T27 l0 x12_1).f1), .int .i64 ((rd_T27 l0 x12_1).f2), .int .i64 ((rd_T27 l0 x12_1).f3), .int .i64 ((rd_T27 l0 x12_1).f4)] 27 (0, 0)) (by (with_reducible repeat (first | refine aJ ?_ _ | refine aM ?_ | refine aK ?_ _)); exact BK236.out) hb); have n3_ := aA.mk (aX (by repeat (first | (with_reducible first | exact HB.out | apply aH | apply aE | apply aG | refine aN ?_ GE228.out | refine aN ?_ GE236.out) | exact HB.out)) hb); clear HO_5; clear BK228; clear BK236; clear HB; have HO_5 := n0_; have BK228 := n1_; have BK236 := n2_; have HB := n3_; clear n0_ n1_ n2_ n3_; (try clear hb)))
          go_roundg kj8
          case measure => have := HK1.out; have := HJ8.out; omega
          case rel => exact ⟨(x5_1), (x6_1), (wrap64 (x12_1 + 1)), (by first | rfl | (simp; done) | (simp [*]; done)), (by first | rfl | (simp; done) | (simp [*]; done)), H', ⟨by have := HK1.out; have := HJ8.out; omega⟩, ⟨by (with_reducible repeat (first | apply Kd.bC | apply Kd.bD | apply Kd.aY)); exact Kd.R_mono HO_5.out (fun _ hk => hk.1)⟩, ⟨by (with_reducible repeat (first | refine aJ ?_ _ | refine aM ?_ | refine aK ?_ _)); exact BK228.out⟩, ⟨by repeat (first | (with_reducible first | exact HB.out | apply aH | apply aE | apply aG | refine aN ?_ GE228.out | refine aN ?_ GE236.out) | exact HB.out)⟩⟩
         ·replace c39 := Bool.eq_false_iff.mpr c39
          subst c39
          have H1 : (if x5_1.length < 3518437208883 then (impl_SetPut.l0 kj8 (x5_1 ++ [(⟨((rd_T27 l0 x12_1).f0), ((rd_T27 l0 x12_1).f1), ((rd_T27 l0 x12_1).f2), ((rd_T27 l0 x12_1).f3), ((rd_T27 l0 x12_1).f4)⟩ : S27)]) x6_1 l0 (l0.length : Int) (wrap64 (x12_1 + 1)) a1_0 a1_1 a1_2 a1_3 a1_4) else (none)) = some r := by rw [if_neg (show ¬ (false = true) by decide)] at H; exact H
          clear H
          have H := H1
          clear H1
          by_cases c44 : x5_1.length < 3518437208883
          ·rw [if_pos c44] at H
           have LMc44 := aA.mk c44
           clear c44
           obtain ⟨y246, hy246⟩ : ∃ y_ : List (S27), y_ = (x5_1 ++ [(⟨((rd_T27 l0 x12_1).f0), ((rd_T27 l0 x12_1).f1), ((rd_T27 l0 x12_1).f2), ((rd_T27 l0 x12_1).f3), ((rd_T27 l0 x12_1).f4)⟩ : S27)]) := ⟨_, rfl⟩
           replace H : (impl_SetPut.l0 kj8 y246 x6_1 l0 (l0.length : Int) (wrap64 (x12_1 + 1)) a1_0 a1_1 a1_2 a1_3 a1_4) = some r := by first | (rw [hy246]; with_reducible exact H) | (have H2_ := (Option.bind_some _ _).symm.trans H; rw [hy246]; with_reducible exact H2_) | (have H2_ := (Option.bind_some _ _).symm.trans H; with_reducible exact H2_) | with_reducible exact H | (rw [hy246]; exact H) | exact H
           have Ny246 := aA.mk hy246
           clear hy246
           have H' := aA.mk H
           clear H
           have hnb45 := NB236_228.out
           have hnc45 := NB228_236.out
           have hcz46_0 : wc.cell? ⟨gb236, 0, none⟩ = some (.int .i64 ((rd_T27 l0 x12_1).f0)) := (aC BK236.out 0).trans rfl
           have hcz46_1 : wc.cell? ⟨gb236, 1, none⟩ = some (.int .i64 ((rd_T27 l0 x12_1).f1)) := (aC BK236.out 1).trans rfl
           have hcz46_2 : wc.cell? ⟨gb236, 2, none⟩ = some (.int .i64 ((rd_T27 l0 x12_1).f2)) := (aC BK236.out 2).trans rfl
           have hcz46_3 : wc.cell? ⟨gb236, 3, none⟩ = some (.int .i64 ((rd_T27 l0 x12_1).f3)) := (aC BK236.out 3).trans rfl
           have hcz46_4 : wc.cell? ⟨gb236, 4, none⟩ = some (.int .i64 ((rd_T27 l0 x12_1).f4)) := (aC BK236.out 4).trans rfl
           have hfz46_0 := aD BK236.out 0
           have hfz46_1 := aD BK236.out 1
           have hfz46_2 := aD BK236.out 2
           have hfz46_3 := aD BK236.out 3
           have hfz46_4 := aD BK236.out 4
           have hcz47_0 : wc.cell? ⟨gb228, 0, none⟩ = some (.int .i64 a1_0) := (aC BK228.out 0).trans rfl
           have hcz47_1 : wc.cell? ⟨gb228, 1, none⟩ = some (.int .i64 a1_1) := (aC BK228.out 1).trans rfl
           have hcz47_2 : wc.cell? ⟨gb228, 2, none⟩ = some (.int .i64 a1_2) := (aC BK228.out 2).trans rfl
           have hcz47_3 : wc.cell? ⟨gb228, 3, none⟩ = some (.int .i64 a1_3) := (aC BK228.out 3).trans rfl
           have hcz47_4 : wc.cell? ⟨gb228, 4, none⟩ = some (.int .i64 a1_4) := (aC BK228.out 4).trans rfl
           have hfz47_0 := aD BK228.out 0
           have hfz47_1 := aD BK228.out 1
           have hfz47_2 := aD BK228.out 2
           have hfz47_3 := aD BK228.out 3
           have hfz47_4 := aD BK228.out 4
           go_wp2_with (first | ((with_reducible refine bK (f := 29) rfl ?_); refine goesL_ (some 30) rfl rfl Try.func29 (by kernel_rfl) rfl #[.agg #[.int .i64 ((rd_T27 l0 x12_1).f0), .int .i64 ((rd_T27 l0 x12_1).f1), .int .i64 ((rd_T27 l0 x12_1).f2), .int .i64 ((rd_T27 l0 x12_1).f3), .int .i64 ((rd_T27 l0 x12_1).f4)], .agg #[.int .i64 a1_0, .int .i64 a1_1, .int .i64 a1_2, .int .i64 a1_3, .int .i64 a1_4]] rfl (by (try simp only [List.map_toArray, List.map_cons, List.map_nil]); first | done | rfl | (simp only [List.length_drop, List.length_take]; rfl)) ?_; (with_reducible refine (impl_SameSpot.calls ((rd_T27 l0 x12_1).f0) ((rd_T27 l0 x12_1).f1) ((rd_T27 l0 x12_1).f2) ((rd_T27 l0 x12_1).f3) ((rd_T27 l0 x12_1).f4) a1_0 a1_1 a1_2 a1_3 a1_4 false _ A38.out).mono ?_); rintro e w48 ⟨rfl, hb⟩; refine ⟨_, rfl, ?_⟩; have n0_ := aA.mk (Kd.bB (by (with_reducible repeat (first | apply Kd.bC | apply Kd.bD | apply Kd.aY)); exact HO_5.out) hb); have n1_ := aA.mk (bE (g := gb228) (o := .cells #[.int .i64 a1_0, .int .i64 a1_1, .int .i64 a1_2, .int .i64 a1_3, .int .i64 a1_4] 27 (0, 0)) (by (with_reducible repeat (first | refine aJ ?_ _ | refine aM ?_ | refine aK ?_ _)); exact BK228.out) hb); have n2_ := aA.mk (bE (g := gb236) (o := .cells #[.int .i64 ((rd_T27 l0 x12_1).f0), .int .i64 ((rd_T27 l0 x12_1).f1), .int .i64 ((rd_T27 l0 x12_1).f2), .int .i64 ((rd_T27 l0 x12_1).f3), .int .i64 ((rd_T27 l0 x12_1).f4)] 27 (0, 0)) (by (with_reducible repeat (first | refine aJ ?_ _ | refine aM ?_ | refine aK ?_ _)); exact BK236.out) hb); have n3_ := aA.mk (aX (by repeat (first | (with_reducible first | exact HB.out | apply aH | apply aE | apply aG | refine aN ?_ GE228.out | refine aN ?_ GE236.out) | exact HB.out)) hb); clear HO_5; clear BK228; clear BK236; clear HB; have HO_5 := n0_; have BK228 := n1_; have BK236 := n2_; have HB := n3_; clear n0_ n1_ n2_ n3_; (try clear hb); (try clear hk); have hcz49_0 : w48.cell? ⟨gb236, 0, none⟩ = some (.int .i64 ((rd_T27 l0 x12_1).f0)) := (aC BK236.out 0).trans rfl; have hcz49_1 : w48.cell? ⟨gb236, 1, none⟩ = some (.int .i64 ((rd_T27 l0 x12_1).f1)) := (aC BK236.out 1).trans rfl; have hcz49_2 : w48.cell? ⟨gb236, 2, none⟩ = some (.int .i64 ((rd_T27 l0 x12_1).f2)) := (aC BK236.out 2).trans rfl; have hcz49_3 : w48.cell? ⟨gb236, 3, none⟩ = some (.int .i64 ((rd_T27 l0 x12_1).f3)) := (aC BK236.out 3).trans rfl; have hcz49_4 : w48.cell? ⟨gb236, 4, none⟩ = some (.int .i64 ((rd_T27 l0 x12_1).f4)) := (aC BK236.out 4).trans rfl; have hfz49_0 := aD BK236.out 0; have hfz49_1 := aD BK236.out 1; have hfz49_2 := aD BK236.out 2; have hfz49_3 := aD BK236.out 3; have hfz49_4 := aD BK236.out 4) | ((with_reducible refine gate_builtin (b := .append) (xs := #[.tmp 32, .tmp 34]) rfl ?_); at_builtin; refine Kd.R_append k27 (w0 := w) w.heap.size rfl (.tmp 32) (.tmp 34) 58 27 (.agg #[(.int .i64 0), (.int .i64 0), (.int .i64 0), (.int .i64 0), (.int .i64 0)]) 40 rfl Try.underlying58 info27 rfl (by decide) (by omega) u5 x5_1 (⟨((rd_T27 l0 x12_1).f0), ((rd_T27 l0 x12_1).f1), ((rd_T27 l0 x12_1).f2), ((rd_T27 l0 x12_1).f3), ((rd_T27 l0 x12_1).f4)⟩ : S27) [.int .i64 ((rd_T27 l0 x12_1).f0), .int .i64 ((rd_T27 l0 x12_1).f1), .int .i64 ((rd_T27 l0 x12_1).f2), .int .i64 ((rd_T27 l0 x12_1).f3), .int .i64 ((rd_T27 l0 x12_1).f4)] (fun k_ => k_ ≠ gb228 ∧ k_ ≠ gb236) (fun _ => False) rfl rfl ?aP (fun _ hk => hk.elim) ?aF ?aO ?aB ?aS ?aL ?_; (case aP => exact k27_mkM _ _ _ (⟨((rd_T27 l0 x12_1).f0), ((rd_T27 l0 x12_1).f1), ((rd_T27 l0 x12_1).f2), ((rd_T27 l0 x12_1).f3), ((rd_T27 l0 x12_1).f4)⟩ : S27)); (case aB => exact (by repeat (first | (with_reducible first | exact HB.out | apply aH | apply aE | apply aG | refine aN ?_ GE228.out | refine aN ?_ GE236.out) | exact HB.out))); (case aF => exact (fun k_ hk => ⟨Kd.freshB (g := gb228) (o := .cells #[.int .i64 a1_0, .int .i64 a1_1, .int .i64 a1_2, .int .i64 a1_3, .int .i64 a1_4] 27 (0, 0)) (by (with_reducible repeat (first | refine aJ ?_ _ | refine aM ?_ | refine aK ?_ _)); exact BK228.out) k_ hk, Kd.freshB (g := gb236) (o := .cells #[.int .i64 ((rd_T27 l0 x12_1).f0), .int .i64 ((rd_T27 l0 x12_1).f1), .int .i64 ((rd_T27 l0 x12_1).f2), .int .i64 ((rd_T27 l0 x12_1).f3), .int .i64 ((rd_T27 l0 x12_1).f4)] 27 (0, 0)) (by (with_reducible repeat (first | refine aJ ?_ _ | refine aM ?_ | refine aK ?_ _)); exact BK236.out) k_ hk⟩)); (case aO => exact (by (with_reducible repeat (first | apply Kd.bC | apply Kd.bD | apply Kd.aY)); exact HO_5.out)); (case aS => exact (aW (by repeat (first | (with_reducible first | exact HB.out | apply aH | apply aE | apply aG | refine aN ?_ GE228.out | refine aN ?_ GE236.out) | exact HB.out)))); (case aL => have := LMc44.out; omega); intro v247 w50 ho hb hg hat; rw [← Ny246.out] at ho; have n0_ := aA.mk (blk_grown (g := gb228) (o := .cells #[.int .i64 a1_0, .int .i64 a1_1, .int .i64 a1_2, .int .i64 a1_3, .int .i64 a1_4] 27 (0, 0)) (by (with_reducible repeat (first | refine aJ ?_ _ | refine aM ?_ | refine aK ?_ _)); exact BK228.out) hg (Kd.R_away HO_5.out (fun _ hk => hk.1))); have n1_ := aA.mk (blk_grown (g := gb236) (o := .cells #[.int .i64 ((rd_T27 l0 x12_1).f0), .int .i64 ((rd_T27 l0 x12_1).f1), .int .i64 ((rd_T27 l0 x12_1).f2), .int .i64 ((rd_T27 l0 x12_1).f3), .int .i64 ((rd_T27 l0 x12_1).f4)] 27 (0, 0)) (by (with_reducible repeat (first | refine aJ ?_ _ | refine aM ?_ | refine aK ?_ _)); exact BK236.out) hg (Kd.R_away HO_5.out (fun _ hk => hk.2))); have n2_ := aA.mk (hb); have n3_ := aA.mk (ho); clear BK228; clear BK236; clear HB; clear HO_5; have BK228 := n0_; have BK236 := n1_; have HB := n2_; have HO248 := n3_; clear n0_ n1_ n2_ n3_; clear ho hb hg hat))
           go_roundg kj8
           case measure => have := HK1.out; have := HJ8.out; omega
           case rel => exact ⟨(y246), (x6_1), (wrap64 (x12_1 + 1)), (by first | rfl | (simp; done) | (simp [*]; done)), (by first | rfl | (simp; done) | (simp [*]; done)), H', ⟨by have := HK1.out; have := HJ8.out; omega⟩, ⟨by (with_reducible repeat (first | apply Kd.bC | apply Kd.bD | apply Kd.aY)); exact Kd.R_mono HO248.out (fun _ hk => hk.1)⟩, ⟨by (with_reducible repeat (first | refine aJ ?_ _ | refine aM ?_ | refine aK ?_ _)); exact BK228.out⟩, ⟨by repeat (first | (with_reducible first | exact HB.out | apply aH | apply aE | apply aG | refine aN ?_ GE228.out | refine aN ?_ GE236.out) | exact HB.out)⟩⟩
          ·rw [if_neg c44] at H
           exact absurd H (by simp)
     ·rw [if_neg c8] at H
      exact absurd H (by simp)
    ·rw [if_neg c7] at H
     exact absurd H (by simp)
   ·rw [if_neg c6] at H
    have c6b0 : decide (x12_1 < (l0.length : Int)) = false := decide_eq_false c6
    clear c6
    by_cases c51 : x6_1 = true
    ·subst c51
     have H1 : (some x5_1) = some r := by rw [if_pos rfl] at H; exact H
     clear H
     have H := H1
     clear H1
     obtain rfl := Option.some.inj H
     go_wp2
     go_ret
     exact ⟨_, by first | rfl | (simp [errW_none, errW_some] <;> rfl) | (simp [*, errW_none, errW_some] <;> rfl), by (with_reducible repeat (first | apply Kd.bC | apply Kd.bD | apply Kd.aY)); exact Kd.R_mono HO_5.out (fun _ hk => trivial), by repeat (first | (with_reducible first | exact HB.out | apply aH | apply aE | apply aG | refine aN ?_ GE228.out) | exact HB.out)⟩
    ·replace c51 := Bool.eq_false_iff.mpr c51
     subst c51
     have H1 : (if x5_1.length < 3518437208883 then (some (x5_1 ++ [(⟨a1_0, a1_1, a1_2, a1_3, a1_4⟩ : S27)])) else (none)) = some r := by rw [if_neg (show ¬ (false = true) by decide)] at H; exact H
     clear H
     have H := H1
     clear H1
     by_cases c52 : x5_1.length < 3518437208883
     ·rw [if_pos c52] at H
      have LMc52 := aA.mk c52
      clear c52
      obtain ⟨y232, hy232⟩ : ∃ y_ : List (S27), y_ = (x5_1 ++ [(⟨a1_0, a1_1, a1_2, a1_3, a1_4⟩ : S27)]) := ⟨_, rfl⟩
      replace H : (some y232) = some r := by first | (rw [hy232]; with_reducible exact H) | (have H2_ := (Option.bind_some _ _).symm.trans H; rw [hy232]; with_reducible exact H2_) | (have H2_ := (Option.bind_some _ _).symm.trans H; with_reducible exact H2_) | with_reducible exact H | (rw [hy232]; exact H) | exact H
      have Ny232 := aA.mk hy232
      clear hy232
      obtain rfl := Option.some.inj H
      have hcz53_0 : wr.cell? ⟨gb228, 0, none⟩ = some (.int .i64 a1_0) := (aC BK228.out 0).trans rfl
      have hcz53_1 : wr.cell? ⟨gb228, 1, none⟩ = some (.int .i64 a1_1) := (aC BK228.out 1).trans rfl
      have hcz53_2 : wr.cell? ⟨gb228, 2, none⟩ = some (.int .i64 a1_2) := (aC BK228.out 2).trans rfl
      have hcz53_3 : wr.cell? ⟨gb228, 3, none⟩ = some (.int .i64 a1_3) := (aC BK228.out 3).trans rfl
      have hcz53_4 : wr.cell? ⟨gb228, 4, none⟩ = some (.int .i64 a1_4) := (aC BK228.out 4).trans rfl
      have hfz53_0 := aD BK228.out 0
      have hfz53_1 := aD BK228.out 1
      have hfz53_2 := aD BK228.out 2
      have hfz53_3 := aD BK228.out 3
      have hfz53_4 := aD BK228.out 4
      go_wp2_with (first | ((with_reducible refine gate_builtin (b := .append) (xs := #[.tmp 39, .tmp 41]) rfl ?_); at_builtin; refine Kd.R_append k27 (w0 := w) w.heap.size rfl (.tmp 39) (.tmp 41) 58 27 (.agg #[(.int .i64 0), (.int .i64 0), (.int .i64 0), (.int .i64 0), (.int .i64 0)]) 40 rfl Try.underlying58 info27 rfl (by decide) (by omega) u5 x5_1 (⟨a1_0, a1_1, a1_2, a1_3, a1_4⟩ : S27) [.int .i64 a1_0, .int .i64 a1_1, .int .i64 a1_2, .int .i64 a1_3, .int .i64 a1_4] (fun k_ => k_ ≠ gb228) (fun _ => False) rfl rfl ?aP (fun _ hk => hk.elim) ?aF ?aO ?aB ?aS ?aL ?_; (case aP => exact k27_mkM _ _ _ (⟨a1_0, a1_1, a1_2, a1_3, a1_4⟩ : S27)); (case aB => exact (by repeat (first | (with_reducible first | exact HB.out | apply aH | apply aE | apply aG | refine aN ?_ GE228.out) | exact HB.out))); (case aF => exact (fun k_ hk => Kd.freshB (g := gb228) (o := .cells #[.int .i64 a1_0, .int .i64 a1_1, .int .i64 a1_2, .int .i64 a1_3, .int .i64 a1_4] 27 (0, 0)) (by (with_reducible repeat (first | refine aJ ?_ _ | refine aM ?_ | refine aK ?_ _)); exact BK228.out) k_ hk)); (case aO => exact (by (with_reducible repeat (first | apply Kd.bC | apply Kd.bD | apply Kd.aY)); exact HO_5.out)); (case aS => exact (aW (by repeat (first | (with_reducible first | exact HB.out | apply aH | apply aE | apply aG | refine aN ?_ GE228.out) | exact HB.out)))); (case aL => have := LMc52.out; omega); intro v233 w54 ho hb hg hat; rw [← Ny232.out] at ho; have n0_ := aA.mk (blk_grown (g := gb228) (o := .cells #[.int .i64 a1_0, .int .i64 a1_1, .int .i64 a1_2, .int .i64 a1_3, .int .i64 a1_4] 27 (0, 0)) (by (with_reducible repeat (first | refine aJ ?_ _ | refine aM ?_ | refine aK ?_ _)); exact BK228.out) hg (Kd.R_away HO_5.out (fun _ hk => hk))); have n1_ := aA.mk (hb); have n2_ := aA.mk (ho); clear BK228; clear HB; clear HO_5; have BK228 := n0_; have HB := n1_; have HO234 := n2_; clear n0_ n1_ n2_; clear ho hb hg hat))
      go_ret
      exact ⟨_, by first | rfl | (simp [errW_none, errW_some] <;> rfl) | (simp [*, errW_none, errW_some] <;> rfl), by (with_reducible repeat (first | apply Kd.bC | apply Kd.bD | apply Kd.aY)); exact Kd.R_mono HO234.out (fun _ hk => trivial), by repeat (first | (with_reducible first | exact HB.out | apply aH | apply aE | apply aG | refine aN ?_ GE228.out) | exact HB.out)⟩
     ·rw [if_neg c52] at H
      exact absurd H (by simp)
end Go.Proofs.Ytkaoiaolbhklnaa.PFnSets
