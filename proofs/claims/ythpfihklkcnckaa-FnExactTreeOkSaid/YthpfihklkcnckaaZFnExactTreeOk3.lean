/- The law: the functions that it reaches, each with the proof that the machine's call comes to its answer, what they answer, and the law's row; each theorem says its conditions itself. -/
import Derived.Test.YthpfihklkcnckaaZFnExactTreeOk2
namespace Go.Proofs.Ythpfihklkcnckaa.PFnExactTreeOk
open Go.RowKit Go.Proofs.YthpfihklkcnckaaW.PrintWords Go.Proofs.YthpfihklkcnckaaW.PrintLast Go.Proofs.YthpfihklkcnckaaW.PrintMore
attribute [local go_sem] max2_int min2_int max_two min_two max_three min_three max_four min_four   -- for this text's walks alone
set_option linter.unusedVariables false
set_option linter.unusedSimpArgs false
def impl_SetOk.l0 : Nat → List (S27) → List (S27) → Int → Int → Option (Bool)
 | 0, _, _, _, _ => none
 | k + 1, x0, x5, x6, x7 => if x7 < x6 then (if 0 ≤ x7 then (if x7 < (x5.length : Int) then ((impl_KeyOk.f k ((rd_T27 x5 x7).f0) ((rd_T27 x5 x7).f1) ((rd_T27 x5 x7).f2) ((rd_T27 x5 x7).f3) ((rd_T27 x5 x7).f4)).bind fun t301 => (if t301 = true then (if x7 > 0 then (if 0 ≤ (wrap64 (x7 - 1)) then (if (wrap64 (x7 - 1)) < (x0.length : Int) then ((impl_LessKey.f ((rd_T27 x0 (wrap64 (x7 - 1))).f0) ((rd_T27 x0 (wrap64 (x7 - 1))).f1) ((rd_T27 x0 (wrap64 (x7 - 1))).f2) ((rd_T27 x0 (wrap64 (x7 - 1))).f3) ((rd_T27 x0 (wrap64 (x7 - 1))).f4) ((rd_T27 x5 x7).f0) ((rd_T27 x5 x7).f1) ((rd_T27 x5 x7).f2) ((rd_T27 x5 x7).f3) ((rd_T27 x5 x7).f4)).bind fun t303 => (if t303 = true then (impl_SetOk.l0 k x0 x5 x6 (wrap64 (x7 + 1))) else (some false))) else (none)) else (none)) else (impl_SetOk.l0 k x0 x5 x6 (wrap64 (x7 + 1)))) else (some false))) else (none)) else (none)) else (some (decide ((x0.length : Int) ≤ 60)))
def impl_SetOk.f (k : Nat) (l0 : List (S27)) : Option (Bool) := impl_SetOk.l0 k l0 l0 (l0.length : Int) 0
def impl_SetOk.T4 : Bool × List (List Nat × List Nat) := (true, [([], []), ([0], [0]), ([1], [1]), ([2, 1], [2]), ([3], [3]), ([4, 3], [3, 4]), ([5, 3, 3], [3, 5]), ([6], [6]), ([6], [6]), ([8, 6], [6, 8]), ([7, 9, 6], [6, 7, 9]), ([10, 6], [6, 10]), ([6], [6]), ([11, 12, 6, 6], [6, 11, 12]), ([13, 6], [6, 13]), ([6, 14, 3], [3, 6, 14]), ([3, 15], [3, 15])])
def impl_SetOk.B4 : List Nat := [0, 1, 3, 7, 15, 31, 63, 127, 127, 383, 1023, 2047, 127, 8191, 16383, 32767, 65535]
theorem impl_SetOk.tab4 : rtab .any (opsOf Try.f63 4) = impl_SetOk.T4 := by kernel_rfl
theorem impl_SetOk.bits4 : waitsOk impl_SetOk.T4.2 impl_SetOk.B4 = true := by kernel_rfl
set_option maxHeartbeats 8000000 in
set_option maxRecDepth 100000 in
theorem impl_SetOk.calls (k : Nat) (A0 : Option Addr) (c0 : Nat) (l0 : List (S27)) (r : Bool) (w : World) (hr0 : Kd.C k27 w A0 l0.length l0) (hc0 : l0.length ≤ c0) (h : impl_SetOk.f k l0 = some r) :
  Calls Try.prog 63 #[.slice A0 l0.length c0] w fun e w' => e = .returned (.bool r) ∧ Below w.heap.size w w' := by
 have hu27 := Try.underlying27
 have HR0 := aA.mk hr0
 have HC0 := aA.mk hc0
 clear hr0 hc0
 have HB := aA.mk (Below.refl w.heap.size w)
 have H : (impl_SetOk.l0 k l0 l0 (l0.length : Int) 0) = some r := h
 clear h
 have H' := aA.mk H
 clear H
 go_enter Try.func63, Try.ntmps63
 go_wp2
 go_loopg [7] k (fun kq v7 w' => ∃ (x7_1 : Int), v7 = .int .i64 x7_1 ∧ aA (impl_SetOk.l0 kq l0 l0 (l0.length : Int) x7_1 = some r) ∧ aA (kq ≤ k) ∧ aA (Below w.heap.size w w'))
 case atStart => exact ⟨(0), (by first | rfl | (simp; done) | (simp [*]; done)), H', ⟨Nat.le_refl _⟩, ⟨by repeat (first | (with_reducible first | exact HB.out | apply aE | apply aC | apply aD) | exact HB.out)⟩⟩
 case round =>
  clear H'
  obtain ⟨x7_1, rfl, HA, HK1, HB⟩ := hrel
  cases gk with
  | zero => exact absurd HA.out (by simp [impl_SetOk.l0])
  | succ k1 =>
   have H := HA.out
   clear HA
   simp only [impl_SetOk.l0] at H
   by_cases c2 : x7_1 < (l0.length : Int)
   ·rw [if_pos c2] at H
    have c2b0 : decide (x7_1 < (l0.length : Int)) = true := decide_eq_true c2
    clear c2
    by_cases c3 : 0 ≤ x7_1
    ·rw [if_pos c3] at H
     have c3b0 : decide (0 ≤ x7_1) = true := decide_eq_true c3
     clear c3
     by_cases c4 : x7_1 < (l0.length : Int)
     ·rw [if_pos c4] at H
      have c4b0 : decide (x7_1 < (l0.length : Int)) = true := decide_eq_true c4
      clear c4
      replace H := lF H
      obtain ⟨t301, A50, H⟩ := H
      replace H : (if t301 = true then (if x7_1 > 0 then (if 0 ≤ (wrap64 (x7_1 - 1)) then (if (wrap64 (x7_1 - 1)) < (l0.length : Int) then ((impl_LessKey.f ((rd_T27 l0 (wrap64 (x7_1 - 1))).f0) ((rd_T27 l0 (wrap64 (x7_1 - 1))).f1) ((rd_T27 l0 (wrap64 (x7_1 - 1))).f2) ((rd_T27 l0 (wrap64 (x7_1 - 1))).f3) ((rd_T27 l0 (wrap64 (x7_1 - 1))).f4) ((rd_T27 l0 x7_1).f0) ((rd_T27 l0 x7_1).f1) ((rd_T27 l0 x7_1).f2) ((rd_T27 l0 x7_1).f3) ((rd_T27 l0 x7_1).f4)).bind fun t303 => (if t303 = true then (impl_SetOk.l0 k1 l0 l0 (l0.length : Int) (wrap64 (x7_1 + 1))) else (some false))) else (none)) else (none)) else (impl_SetOk.l0 k1 l0 l0 (l0.length : Int) (wrap64 (x7_1 + 1)))) else (some false)) = some r := H
      have A5 := aA.mk A50
      clear A50
      by_cases c6 : t301 = true
      ·subst c6
       have H1 : (if x7_1 > 0 then (if 0 ≤ (wrap64 (x7_1 - 1)) then (if (wrap64 (x7_1 - 1)) < (l0.length : Int) then ((impl_LessKey.f ((rd_T27 l0 (wrap64 (x7_1 - 1))).f0) ((rd_T27 l0 (wrap64 (x7_1 - 1))).f1) ((rd_T27 l0 (wrap64 (x7_1 - 1))).f2) ((rd_T27 l0 (wrap64 (x7_1 - 1))).f3) ((rd_T27 l0 (wrap64 (x7_1 - 1))).f4) ((rd_T27 l0 x7_1).f0) ((rd_T27 l0 x7_1).f1) ((rd_T27 l0 x7_1).f2) ((rd_T27 l0 x7_1).f3) ((rd_T27 l0 x7_1).f4)).bind fun t303 => (if t303 = true then (impl_SetOk.l0 k1 l0 l0 (l0.length : Int) (wrap64 (x7_1 + 1))) else (some false))) else (none)) else (none)) else (impl_SetOk.l0 k1 l0 l0 (l0.length : Int) (wrap64 (x7_1 + 1)))) = some r := by rw [if_pos rfl] at H; exact H
       clear H
       have H := H1
       clear H1
       by_cases c7 : x7_1 > 0
       ·rw [if_pos c7] at H
        have c7b0 : decide (0 < x7_1) = true := decide_eq_true c7
        clear c7
        obtain ⟨ji8, hji8⟩ : ∃ j_ : Int, (wrap64 (x7_1 - 1)) = j_ := ⟨_, rfl⟩
        replace H : (if 0 ≤ (ji8) then (if (ji8) < (l0.length : Int) then ((impl_LessKey.f ((rd_T27 l0 (ji8)).f0) ((rd_T27 l0 (ji8)).f1) ((rd_T27 l0 (ji8)).f2) ((rd_T27 l0 (ji8)).f3) ((rd_T27 l0 (ji8)).f4) ((rd_T27 l0 x7_1).f0) ((rd_T27 l0 x7_1).f1) ((rd_T27 l0 x7_1).f2) ((rd_T27 l0 x7_1).f3) ((rd_T27 l0 x7_1).f4)).bind fun t303 => (if t303 = true then (impl_SetOk.l0 k1 l0 l0 (l0.length : Int) (wrap64 (x7_1 + 1))) else (some false))) else (none)) else (none)) = some r := by first | (rw [hji8] at H; exact H) | (simp only [hji8] at H ⊢; exact H)
        (try rw [hji8] at A5)
        have hji8w : (IntKind.i64.wrap (x7_1 - 1)) = ji8 := (aT _).trans hji8
        by_cases c9 : 0 ≤ (ji8)
        ·rw [if_pos c9] at H
         have c9b0 : decide (0 ≤ (ji8)) = true := decide_eq_true c9
         clear c9
         by_cases c10 : (ji8) < (l0.length : Int)
         ·rw [if_pos c10] at H
          have c10b0 : decide ((ji8) < (l0.length : Int)) = true := decide_eq_true c10
          clear c10
          replace H := lF H
          obtain ⟨t303, A110, H⟩ := H
          replace H : (if t303 = true then (impl_SetOk.l0 k1 l0 l0 (l0.length : Int) (wrap64 (x7_1 + 1))) else (some false)) = some r := H
          have A11 := aA.mk A110
          clear A110
          by_cases c12 : t303 = true
          ·subst c12
           have H1 : (impl_SetOk.l0 k1 l0 l0 (l0.length : Int) (wrap64 (x7_1 + 1))) = some r := by rw [if_pos rfl] at H; exact H
           clear H
           have H := H1
           clear H1
           have H' := aA.mk H
           clear H
           have p299 : 0 ≤ (x7_1 : Int) := lE (by first | (with_reducible assumption) | assumption)
           have q299 : x7_1 < (l0.length : Int) := lE (by first | (with_reducible assumption) | assumption)
           obtain ⟨ad299, e299, hx299_0, hx299_1, hx299_2, hx299_3, hx299_4⟩ := at_T27 HR0.out x7_1 p299 q299
           cases e299
           replace hx299_0 := (HB.out.cell (lD w _ hx299_0)).trans hx299_0
           replace hx299_1 := (HB.out.cell (lD w _ hx299_1)).trans hx299_1
           replace hx299_2 := (HB.out.cell (lD w _ hx299_2)).trans hx299_2
           replace hx299_3 := (HB.out.cell (lD w _ hx299_3)).trans hx299_3
           replace hx299_4 := (HB.out.cell (lD w _ hx299_4)).trans hx299_4
           replace p299 := eq_true p299
           replace q299 := eq_true q299
           try go_wp2_with (first | ((with_reducible refine bF (N := 4) rfl ?_); refine bH ?hg (N := 4) ?hd (cs := #[.int .i64 0, .int .i64 0, .int .i64 0, .int .i64 0, .int .i64 0]) (t := 27) ?hr ?_; (case hd => rfl); (case hg => rfl); (case hr => first | (go_simp; done) | (go_simp; rfl)); intro gb300 hg w13 hbox hb; have n0_ := aA.mk (aV (by repeat (first | (with_reducible first | exact HB.out | apply aE | apply aC | apply aD) | exact HB.out)) hb); have n1_ := aA.mk (hbox); have n2_ := aA.mk ((by rw [hg]; exact (aQ (by repeat (first | (with_reducible first | exact HB.out | apply aE | apply aC | apply aD) | exact HB.out))) : w.heap.size ≤ gb300)); have n3_ := aA.mk ((by rw [hg]; exact (aQ (by repeat (first | (with_reducible first | exact HB.out | apply aE | apply aC | apply aD) | exact HB.out))) : w.heap.size ≤ gb300)); clear HB; have HB := n0_; have BK300 := n1_; have GW300 := n2_; have GE300 := n3_; clear n0_ n1_ n2_ n3_; clear hb hbox hg; have hcz14_0 : w13.cell? ⟨gb300, 0, none⟩ = some (.int .i64 0) := (aG BK300.out 0).trans rfl; have hcz14_1 : w13.cell? ⟨gb300, 1, none⟩ = some (.int .i64 0) := (aG BK300.out 1).trans rfl; have hcz14_2 : w13.cell? ⟨gb300, 2, none⟩ = some (.int .i64 0) := (aG BK300.out 2).trans rfl; have hcz14_3 : w13.cell? ⟨gb300, 3, none⟩ = some (.int .i64 0) := (aG BK300.out 3).trans rfl; have hcz14_4 : w13.cell? ⟨gb300, 4, none⟩ = some (.int .i64 0) := (aG BK300.out 4).trans rfl; have hfz14_0 := aH BK300.out 0; have hfz14_1 := aH BK300.out 1; have hfz14_2 := aH BK300.out 2; have hfz14_3 := aH BK300.out 3; have hfz14_4 := aH BK300.out 4))
           have n0_ : aA ((((((w13.setCell ⟨gb300, 0, none⟩ (.int .i64 ((rd_T27 l0 x7_1).f0))).setCell ⟨gb300, 1, none⟩ (.int .i64 ((rd_T27 l0 x7_1).f1))).setCell ⟨gb300, 2, none⟩ (.int .i64 ((rd_T27 l0 x7_1).f2))).setCell ⟨gb300, 3, none⟩ (.int .i64 ((rd_T27 l0 x7_1).f3))).setCell ⟨gb300, 4, none⟩ (.int .i64 ((rd_T27 l0 x7_1).f4))).heap[gb300]? = some (.cells #[.int .i64 ((rd_T27 l0 x7_1).f0), .int .i64 ((rd_T27 l0 x7_1).f1), .int .i64 ((rd_T27 l0 x7_1).f2), .int .i64 ((rd_T27 l0 x7_1).f3), .int .i64 ((rd_T27 l0 x7_1).f4)] 27 (0, 0))) := ⟨by (with_reducible repeat (first | refine aK ?_ _ | refine aN ?_ | refine aM ?_ _)); refine bM (cs := #[.int .i64 ((rd_T27 l0 x7_1).f0), .int .i64 ((rd_T27 l0 x7_1).f1), .int .i64 ((rd_T27 l0 x7_1).f2), .int .i64 ((rd_T27 l0 x7_1).f3), .int .i64 0]) ?_ 4 _ rfl; (with_reducible repeat (first | refine aK ?_ _ | refine aN ?_ | refine aM ?_ _)); refine bM (cs := #[.int .i64 ((rd_T27 l0 x7_1).f0), .int .i64 ((rd_T27 l0 x7_1).f1), .int .i64 ((rd_T27 l0 x7_1).f2), .int .i64 0, .int .i64 0]) ?_ 3 _ rfl; (with_reducible repeat (first | refine aK ?_ _ | refine aN ?_ | refine aM ?_ _)); refine bM (cs := #[.int .i64 ((rd_T27 l0 x7_1).f0), .int .i64 ((rd_T27 l0 x7_1).f1), .int .i64 0, .int .i64 0, .int .i64 0]) ?_ 2 _ rfl; (with_reducible repeat (first | refine aK ?_ _ | refine aN ?_ | refine aM ?_ _)); refine bM (cs := #[.int .i64 ((rd_T27 l0 x7_1).f0), .int .i64 0, .int .i64 0, .int .i64 0, .int .i64 0]) ?_ 1 _ rfl; (with_reducible repeat (first | refine aK ?_ _ | refine aN ?_ | refine aM ?_ _)); refine bM (cs := #[.int .i64 0, .int .i64 0, .int .i64 0, .int .i64 0, .int .i64 0]) ?_ 0 _ rfl; (with_reducible repeat (first | refine aK ?_ _ | refine aN ?_ | refine aM ?_ _)); exact BK300.out⟩
           have n1_ : aA (Below w.heap.size w (((((w13.setCell ⟨gb300, 0, none⟩ (.int .i64 ((rd_T27 l0 x7_1).f0))).setCell ⟨gb300, 1, none⟩ (.int .i64 ((rd_T27 l0 x7_1).f1))).setCell ⟨gb300, 2, none⟩ (.int .i64 ((rd_T27 l0 x7_1).f2))).setCell ⟨gb300, 3, none⟩ (.int .i64 ((rd_T27 l0 x7_1).f3))).setCell ⟨gb300, 4, none⟩ (.int .i64 ((rd_T27 l0 x7_1).f4)))) := ⟨by repeat (first | (with_reducible first | exact HB.out | apply aE | apply aC | apply aD | refine aJ ?_ GE300.out) | exact HB.out)⟩
           (try clear BK300)
           (try clear HB)
           generalize (((((w13.setCell ⟨gb300, 0, none⟩ (.int .i64 ((rd_T27 l0 x7_1).f0))).setCell ⟨gb300, 1, none⟩ (.int .i64 ((rd_T27 l0 x7_1).f1))).setCell ⟨gb300, 2, none⟩ (.int .i64 ((rd_T27 l0 x7_1).f2))).setCell ⟨gb300, 3, none⟩ (.int .i64 ((rd_T27 l0 x7_1).f3))).setCell ⟨gb300, 4, none⟩ (.int .i64 ((rd_T27 l0 x7_1).f4))) = w15 at n0_ n1_ ⊢
           have BK300 := n0_
           have HB := n1_
           clear n0_ n1_
           have n0_ := aA.mk (aN BK300.out)
           have n1_ := aA.mk (aD HB.out)
           clear BK300
           clear HB
           have BK300 := n0_
           have HB := n1_
           clear n0_ n1_
           have p302 : 0 ≤ ((ji8) : Int) := lE (by first | (with_reducible assumption) | assumption)
           have q302 : (ji8) < (l0.length : Int) := lE (by first | (with_reducible assumption) | assumption)
           obtain ⟨ad302, e302, hx302_0, hx302_1, hx302_2, hx302_3, hx302_4⟩ := at_T27 HR0.out (ji8) p302 q302
           have hw302_4 := hx302_4
           have hw302_3 := hx302_3
           have hw302_2 := hx302_2
           have hw302_1 := hx302_1
           have hw302_0 := hx302_0
           obtain rfl : ad299 = ad302 := (by injection e302)
           replace hx302_0 := (HB.out.cell (lD w _ hx302_0)).trans hx302_0
           replace hx302_1 := (HB.out.cell (lD w _ hx302_1)).trans hx302_1
           replace hx302_2 := (HB.out.cell (lD w _ hx302_2)).trans hx302_2
           replace hx302_3 := (HB.out.cell (lD w _ hx302_3)).trans hx302_3
           replace hx302_4 := (HB.out.cell (lD w _ hx302_4)).trans hx302_4
           replace p302 := eq_true p302
           replace q302 := eq_true q302
           refine start_ (n := 17) (S := fun w' => w'.cell? ⟨gb300, 0, none⟩ = some (.int .i64 ((rd_T27 l0 x7_1).f0)) ∧ w'.cell? ⟨gb300, 1, none⟩ = some (.int .i64 ((rd_T27 l0 x7_1).f1)) ∧ w'.cell? ⟨gb300, 2, none⟩ = some (.int .i64 ((rd_T27 l0 x7_1).f2)) ∧ w'.cell? ⟨gb300, 3, none⟩ = some (.int .i64 ((rd_T27 l0 x7_1).f3)) ∧ w'.cell? ⟨gb300, 4, none⟩ = some (.int .i64 ((rd_T27 l0 x7_1).f4)) ∧ w'.cell? (ad299.add (((ji8)).toNat * 5)) = some (.int .i64 ((rd_T27 l0 (ji8)).f0)) ∧ w'.cell? ⟨(ad299.add (((ji8)).toNat * 5)).block, (ad299.add (((ji8)).toNat * 5)).off + 1, none⟩ = some (.int .i64 ((rd_T27 l0 (ji8)).f1)) ∧ w'.cell? ⟨(ad299.add (((ji8)).toNat * 5)).block, (ad299.add (((ji8)).toNat * 5)).off + 2, none⟩ = some (.int .i64 ((rd_T27 l0 (ji8)).f2)) ∧ w'.cell? ⟨(ad299.add (((ji8)).toNat * 5)).block, (ad299.add (((ji8)).toNat * 5)).off + 3, none⟩ = some (.int .i64 ((rd_T27 l0 (ji8)).f3)) ∧ w'.cell? ⟨(ad299.add (((ji8)).toNat * 5)).block, (ad299.add (((ji8)).toNat * 5)).off + 4, none⟩ = some (.int .i64 ((rd_T27 l0 (ji8)).f4))) (ds := []) #[false, false, false, false, false, false, false, false, false, false, false, false, false, false, false, false, false] (by kernel_rfl) rfl rfl ⟨(aG BK300.out 0).trans rfl, (aG BK300.out 1).trans rfl, (aG BK300.out 2).trans rfl, (aG BK300.out 3).trans rfl, (aG BK300.out 4).trans rfl, ((HB.out.cell (lD w _ hw302_0)).trans hw302_0), ((HB.out.cell (lD w _ hw302_1)).trans hw302_1), ((HB.out.cell (lD w _ hw302_2)).trans hw302_2), ((HB.out.cell (lD w _ hw302_3)).trans hw302_3), ((HB.out.cell (lD w _ hw302_4)).trans hw302_4)⟩ (fun hHeld => ?_); refine with_tabW impl_SetOk.tab4 impl_SetOk.bits4 (fun HT_ HW_ => ?_)
           generalize w15.drew = w16 at BK300 HB hx302_0 hx302_1 hx302_2 hx302_3 hx302_4 hHeld ⊢
           refine take_ (i := 0) (N := some 12) (v := ?_) (a' := ?_) #[true, false, false, false, false, false, false, false, false, false, false, false, false, false, false, false, false] rfl rfl (bP HT_.out HW_.out (by kernel_rfl)) (fun _ _ _ h => h) (Or.inl ⟨by rfl, ?_⟩) hHeld ?_ ?_
           rotate_left
           ·rintro w' ⟨s0, s1, s2, s3, s4, s5, s6, s7, s8, s9⟩
            go_simp
            with_reducible rfl
           rotate_left
           ·simp only [Act.put, lA, lB, lC, aT, aU]
            rfl
           refine one_ (i := 1) (N := some 13) #[true, true, false, false, false, false, false, false, false, false, false, false, false, false, false, false, false] rfl rfl (one_of HT_.out (by kernel_rfl)) (by decide) (fun K hK => ?_)
           refine goes_ Try.func91 (by kernel_rfl) rfl #[.agg #[.int .i64 ((rd_T27 l0 x7_1).f0), .int .i64 ((rd_T27 l0 x7_1).f1), .int .i64 ((rd_T27 l0 x7_1).f2), .int .i64 ((rd_T27 l0 x7_1).f3), .int .i64 ((rd_T27 l0 x7_1).f4)]] (by rfl) rfl rfl (by (try simp only [List.map_toArray, List.map_cons, List.map_nil]); first | done | rfl | (simp only [List.length_drop, List.length_take]; rfl)) ?_
           with_reducible refine (impl_KeyOk.calls k1 ((rd_T27 l0 x7_1).f0) ((rd_T27 l0 x7_1).f1) ((rd_T27 l0 x7_1).f2) ((rd_T27 l0 x7_1).f3) ((rd_T27 l0 x7_1).f4) true _ A5.out).mono ?_
           rintro e w17 ⟨rfl, hb⟩
           refine ⟨_, rfl, ?_⟩
           have n0_ := aA.mk (aY (g := gb300) (o := .cells #[.int .i64 ((rd_T27 l0 x7_1).f0), .int .i64 ((rd_T27 l0 x7_1).f1), .int .i64 ((rd_T27 l0 x7_1).f2), .int .i64 ((rd_T27 l0 x7_1).f3), .int .i64 ((rd_T27 l0 x7_1).f4)] 27 (0, 0)) (by (with_reducible repeat (first | refine aK ?_ _ | refine aN ?_ | refine aM ?_ _)); exact BK300.out) hb)
           have n1_ := aA.mk (aV (by repeat (first | (with_reducible first | exact HB.out | apply aE | apply aC | apply aD | refine aJ ?_ GE300.out) | exact HB.out)) hb)
           clear BK300
           clear HB
           have BK300 := n0_
           have HB := n1_
           clear n0_ n1_
           (try clear hb)
           (try clear hb2)
           (try clear hk)
           (try clear hi)
           refine hK.out _ _ ⟨(aG BK300.out 0).trans rfl, (aG BK300.out 1).trans rfl, (aG BK300.out 2).trans rfl, (aG BK300.out 3).trans rfl, (aG BK300.out 4).trans rfl, ((HB.out.cell (lD w _ hw302_0)).trans hw302_0), ((HB.out.cell (lD w _ hw302_1)).trans hw302_1), ((HB.out.cell (lD w _ hw302_2)).trans hw302_2), ((HB.out.cell (lD w _ hw302_3)).trans hw302_3), ((HB.out.cell (lD w _ hw302_4)).trans hw302_4)⟩ (fun hHeld => ?_)
           clear hK K
           refine norm_ (a' := ?_) ?_ ?_
           rotate_left
           ·show Act.put _ (some 13) _ = _
            simp only [Act.put, lA, lB, lC, aT, aU]
            rfl
           refine aX (i := 2) (N := some 14) (v := ?_) (a' := ?_) #[true, true, true, false, false, false, false, false, false, false, false, false, false, false, false, false, false] rfl rfl (aW HT_.out (by kernel_rfl)) (fun _ _ _ h => h) (Or.inl ⟨by rfl, ?_⟩) ?_ ?_
           rotate_left
           ·intro w'
            go_simp
            with_reducible rfl
           rotate_left
           ·simp only [Act.put, lA, lB, lC, aT, aU]
            rfl
           refine aX (i := 3) (N := some 15) (v := ?_) (a' := ?_) #[true, true, true, true, false, false, false, false, false, false, false, false, false, false, false, false, false] rfl rfl (aW HT_.out (by kernel_rfl)) (fun _ _ _ h => h) (Or.inl ⟨by rfl, ?_⟩) ?_ ?_
           rotate_left
           ·intro w'
            go_simp
            with_reducible rfl
           rotate_left
           ·simp only [Act.put, lA, lB, lC, aT, aU]
            rfl
           refine aX (i := 4) (N := some 16) (v := ?_) (a' := ?_) #[true, true, true, true, true, false, false, false, false, false, false, false, false, false, false, false, false] rfl rfl (aW HT_.out (by kernel_rfl)) (fun _ _ _ h => h) (Or.inl ⟨by rfl, ?_⟩) ?_ ?_
           rotate_left
           ·intro w'
            go_simp
            with_reducible rfl
           rotate_left
           ·simp only [Act.put, lA, lB, lC, aT, aU]
            rfl
           refine aX (i := 5) (N := some 17) (v := ?_) (a' := ?_) #[true, true, true, true, true, true, false, false, false, false, false, false, false, false, false, false, false] rfl rfl (aW HT_.out (by kernel_rfl)) (fun _ _ _ h => h) (Or.inl ⟨by rfl, ?_⟩) ?_ ?_
           rotate_left
           ·intro w'
            go_simp
            with_reducible rfl
           rotate_left
           ·simp only [Act.put, lA, lB, lC, aT, aU]
            rfl
           refine aX (i := 6) (N := some 18) (v := ?_) (a' := ?_) #[true, true, true, true, true, true, true, false, false, false, false, false, false, false, false, false, false] rfl rfl (aW HT_.out (by kernel_rfl)) (fun _ _ _ h => h) (Or.inl ⟨by rfl, ?_⟩) ?_ ?_
           rotate_left
           ·intro w'
            go_simp
            with_reducible rfl
           rotate_left
           ·simp only [Act.put, lA, lB, lC, aT, aU]
            rfl
           refine aX (i := 7) (N := some 19) (v := ?_) (a' := ?_) #[true, true, true, true, true, true, true, true, false, false, false, false, false, false, false, false, false] rfl rfl (aW HT_.out (by kernel_rfl)) (fun _ _ _ h => h) (Or.inl ⟨by rfl, ?_⟩) ?_ ?_
           rotate_left
           ·intro w'
            go_simp
            with_reducible rfl
           rotate_left
           ·simp only [Act.put, lA, lB, lC, aT, aU]
            rfl
           refine aX (i := 8) (N := some 20) (v := ?_) (a' := ?_) #[true, true, true, true, true, true, true, true, true, false, false, false, false, false, false, false, false] rfl rfl (aW HT_.out (by kernel_rfl)) (fun _ _ _ h => h) (Or.inl ⟨by rfl, ?_⟩) ?_ ?_
           rotate_left
           ·intro w'
            go_simp
            with_reducible rfl
           rotate_left
           ·simp only [Act.put, lA, lB, lC, aT, aU]
            rfl
           refine aX (i := 9) (N := some 21) (v := ?_) (a' := ?_) #[true, true, true, true, true, true, true, true, true, true, false, false, false, false, false, false, false] rfl rfl (aW HT_.out (by kernel_rfl)) (fun _ _ _ h => h) (Or.inl ⟨by rfl, ?_⟩) ?_ ?_
           rotate_left
           ·intro w'
            go_simp
            with_reducible rfl
           rotate_left
           ·simp only [Act.put, lA, lB, lC, aT, aU]
            rfl
           refine aX (i := 10) (N := some 22) (v := ?_) (a' := ?_) #[true, true, true, true, true, true, true, true, true, true, true, false, false, false, false, false, false] rfl rfl (aW HT_.out (by kernel_rfl)) (fun _ _ _ h => h) (Or.inl ⟨by rfl, ?_⟩) ?_ ?_
           rotate_left
           ·intro w'
            go_simp
            with_reducible rfl
           rotate_left
           ·simp only [Act.put, lA, lB, lC, aT, aU]
            rfl
           refine take_ (i := 11) (N := some 23) (v := ?_) (a' := ?_) #[true, true, true, true, true, true, true, true, true, true, true, true, false, false, false, false, false] rfl rfl (bP HT_.out HW_.out (by kernel_rfl)) (fun _ _ _ h => h) (Or.inl ⟨by rfl, ?_⟩) hHeld ?_ ?_
           rotate_left
           ·rintro w' ⟨s0, s1, s2, s3, s4, s5, s6, s7, s8, s9⟩
            go_simp
            with_reducible rfl
           rotate_left
           ·simp only [Act.put, lA, lB, lC, aT, aU]
            rfl
           refine take_ (i := 12) (N := some 24) (v := ?_) (a' := ?_) #[true, true, true, true, true, true, true, true, true, true, true, true, true, false, false, false, false] rfl rfl (bP HT_.out HW_.out (by kernel_rfl)) (fun _ _ _ h => h) (Or.inl ⟨by rfl, ?_⟩) hHeld ?_ ?_
           rotate_left
           ·rintro w' ⟨s0, s1, s2, s3, s4, s5, s6, s7, s8, s9⟩
            go_simp
            with_reducible rfl
           rotate_left
           ·simp only [Act.put, lA, lB, lC, aT, aU]
            rfl
           refine one_ (i := 13) (N := some 25) #[true, true, true, true, true, true, true, true, true, true, true, true, true, true, false, false, false] rfl rfl (one_of HT_.out (by kernel_rfl)) (by decide) (fun K hK => ?_)
           refine goes_ Try.func92 (by kernel_rfl) rfl #[.agg #[.int .i64 ((rd_T27 l0 (ji8)).f0), .int .i64 ((rd_T27 l0 (ji8)).f1), .int .i64 ((rd_T27 l0 (ji8)).f2), .int .i64 ((rd_T27 l0 (ji8)).f3), .int .i64 ((rd_T27 l0 (ji8)).f4)], .agg #[.int .i64 ((rd_T27 l0 x7_1).f0), .int .i64 ((rd_T27 l0 x7_1).f1), .int .i64 ((rd_T27 l0 x7_1).f2), .int .i64 ((rd_T27 l0 x7_1).f3), .int .i64 ((rd_T27 l0 x7_1).f4)]] (by rfl) rfl rfl (by (try simp only [List.map_toArray, List.map_cons, List.map_nil]); first | done | (simp only [hji8]; rfl) | rfl | (simp only [List.length_drop, List.length_take]; rfl)) ?_
           with_reducible refine (impl_LessKey.calls ((rd_T27 l0 (ji8)).f0) ((rd_T27 l0 (ji8)).f1) ((rd_T27 l0 (ji8)).f2) ((rd_T27 l0 (ji8)).f3) ((rd_T27 l0 (ji8)).f4) ((rd_T27 l0 x7_1).f0) ((rd_T27 l0 x7_1).f1) ((rd_T27 l0 x7_1).f2) ((rd_T27 l0 x7_1).f3) ((rd_T27 l0 x7_1).f4) true _ A11.out).mono ?_
           rintro e w18 ⟨rfl, hb⟩
           refine ⟨_, rfl, ?_⟩
           have n0_ := aA.mk (aY (g := gb300) (o := .cells #[.int .i64 ((rd_T27 l0 x7_1).f0), .int .i64 ((rd_T27 l0 x7_1).f1), .int .i64 ((rd_T27 l0 x7_1).f2), .int .i64 ((rd_T27 l0 x7_1).f3), .int .i64 ((rd_T27 l0 x7_1).f4)] 27 (0, 0)) (by (with_reducible repeat (first | refine aK ?_ _ | refine aN ?_ | refine aM ?_ _)); exact BK300.out) hb)
           have n1_ := aA.mk (aV (by repeat (first | (with_reducible first | exact HB.out | apply aE | apply aC | apply aD | refine aJ ?_ GE300.out) | exact HB.out)) hb)
           clear BK300
           clear HB
           have BK300 := n0_
           have HB := n1_
           clear n0_ n1_
           (try clear hb)
           (try clear hb2)
           (try clear hk)
           (try clear hi)
           refine hK.out _ _ ⟨(aG BK300.out 0).trans rfl, (aG BK300.out 1).trans rfl, (aG BK300.out 2).trans rfl, (aG BK300.out 3).trans rfl, (aG BK300.out 4).trans rfl, ((HB.out.cell (lD w _ hw302_0)).trans hw302_0), ((HB.out.cell (lD w _ hw302_1)).trans hw302_1), ((HB.out.cell (lD w _ hw302_2)).trans hw302_2), ((HB.out.cell (lD w _ hw302_3)).trans hw302_3), ((HB.out.cell (lD w _ hw302_4)).trans hw302_4)⟩ (fun hHeld => ?_)
           clear hK K
           refine norm_ (a' := ?_) ?_ ?_
           rotate_left
           ·show Act.put _ (some 25) _ = _
            simp only [Act.put, lA, lB, lC, aT, aU]
            rfl
           refine aX (i := 14) (N := some 26) (v := ?_) (a' := ?_) #[true, true, true, true, true, true, true, true, true, true, true, true, true, true, true, false, false] rfl rfl (aW HT_.out (by kernel_rfl)) (fun _ _ _ h => h) (Or.inl ⟨by rfl, ?_⟩) ?_ ?_
           rotate_left
           ·intro w'
            go_simp
            with_reducible rfl
           rotate_left
           ·simp only [Act.put, lA, lB, lC, aT, aU]
            rfl
           refine aX (i := 15) (N := some 27) (v := ?_) (a' := ?_) #[true, true, true, true, true, true, true, true, true, true, true, true, true, true, true, true, false] rfl rfl (aW HT_.out (by kernel_rfl)) (fun _ _ _ h => h) (Or.inl ⟨by rfl, ?_⟩) ?_ ?_
           rotate_left
           ·intro w'
            go_simp
            with_reducible rfl
           rotate_left
           ·simp only [Act.put, lA, lB, lC, aT, aU]
            rfl
           refine aX (i := 16) (N := some 28) (v := ?_) (a' := ?_) #[true, true, true, true, true, true, true, true, true, true, true, true, true, true, true, true, true] rfl rfl (aW HT_.out (by kernel_rfl)) (fun _ _ _ h => h) (Or.inl ⟨by rfl, ?_⟩) ?_ ?_
           rotate_left
           ·intro w'
            go_simp
            with_reducible rfl
           rotate_left
           ·simp only [Act.put, lA, lB, lC, aT, aU]
            rfl
           refine done_ (done_of HT_.out (by kernel_rfl)) ?_
           try go_wp2
           go_roundg k1
           case measure => have := HK1.out; omega
           case rel => exact ⟨(wrap64 (x7_1 + 1)), (by first | rfl | (simp; done) | (simp [*]; done)), H', ⟨by have := HK1.out; omega⟩, ⟨by repeat (first | (with_reducible first | exact HB.out | apply aE | apply aC | apply aD | refine aJ ?_ GE300.out) | exact HB.out)⟩⟩
          ·replace c12 := Bool.eq_false_iff.mpr c12
           subst c12
           have H1 : (some false) = some r := by rw [if_neg (show ¬ (false = true) by decide)] at H; exact H
           clear H
           have H := H1
           clear H1
           obtain rfl := Option.some.inj H
           have p299 : 0 ≤ (x7_1 : Int) := lE (by first | (with_reducible assumption) | assumption)
           have q299 : x7_1 < (l0.length : Int) := lE (by first | (with_reducible assumption) | assumption)
           obtain ⟨ad299, e299, hx299_0, hx299_1, hx299_2, hx299_3, hx299_4⟩ := at_T27 HR0.out x7_1 p299 q299
           cases e299
           replace hx299_0 := (HB.out.cell (lD w _ hx299_0)).trans hx299_0
           replace hx299_1 := (HB.out.cell (lD w _ hx299_1)).trans hx299_1
           replace hx299_2 := (HB.out.cell (lD w _ hx299_2)).trans hx299_2
           replace hx299_3 := (HB.out.cell (lD w _ hx299_3)).trans hx299_3
           replace hx299_4 := (HB.out.cell (lD w _ hx299_4)).trans hx299_4
           replace p299 := eq_true p299
           replace q299 := eq_true q299
           try go_wp2_with (first | ((with_reducible refine bF (N := 4) rfl ?_); refine bH ?hg (N := 4) ?hd (cs := #[.int .i64 0, .int .i64 0, .int .i64 0, .int .i64 0, .int .i64 0]) (t := 27) ?hr ?_; (case hd => rfl); (case hg => rfl); (case hr => first | (go_simp; done) | (go_simp; rfl)); intro gb300 hg w19 hbox hb; have n0_ := aA.mk (aV (by repeat (first | (with_reducible first | exact HB.out | apply aE | apply aC | apply aD) | exact HB.out)) hb); have n1_ := aA.mk (hbox); have n2_ := aA.mk ((by rw [hg]; exact (aQ (by repeat (first | (with_reducible first | exact HB.out | apply aE | apply aC | apply aD) | exact HB.out))) : w.heap.size ≤ gb300)); have n3_ := aA.mk ((by rw [hg]; exact (aQ (by repeat (first | (with_reducible first | exact HB.out | apply aE | apply aC | apply aD) | exact HB.out))) : w.heap.size ≤ gb300)); clear HB; have HB := n0_; have BK300 := n1_; have GW300 := n2_; have GE300 := n3_; clear n0_ n1_ n2_ n3_; clear hb hbox hg; have hcz20_0 : w19.cell? ⟨gb300, 0, none⟩ = some (.int .i64 0) := (aG BK300.out 0).trans rfl; have hcz20_1 : w19.cell? ⟨gb300, 1, none⟩ = some (.int .i64 0) := (aG BK300.out 1).trans rfl; have hcz20_2 : w19.cell? ⟨gb300, 2, none⟩ = some (.int .i64 0) := (aG BK300.out 2).trans rfl; have hcz20_3 : w19.cell? ⟨gb300, 3, none⟩ = some (.int .i64 0) := (aG BK300.out 3).trans rfl; have hcz20_4 : w19.cell? ⟨gb300, 4, none⟩ = some (.int .i64 0) := (aG BK300.out 4).trans rfl; have hfz20_0 := aH BK300.out 0; have hfz20_1 := aH BK300.out 1; have hfz20_2 := aH BK300.out 2; have hfz20_3 := aH BK300.out 3; have hfz20_4 := aH BK300.out 4))
           have n0_ : aA ((((((w19.setCell ⟨gb300, 0, none⟩ (.int .i64 ((rd_T27 l0 x7_1).f0))).setCell ⟨gb300, 1, none⟩ (.int .i64 ((rd_T27 l0 x7_1).f1))).setCell ⟨gb300, 2, none⟩ (.int .i64 ((rd_T27 l0 x7_1).f2))).setCell ⟨gb300, 3, none⟩ (.int .i64 ((rd_T27 l0 x7_1).f3))).setCell ⟨gb300, 4, none⟩ (.int .i64 ((rd_T27 l0 x7_1).f4))).heap[gb300]? = some (.cells #[.int .i64 ((rd_T27 l0 x7_1).f0), .int .i64 ((rd_T27 l0 x7_1).f1), .int .i64 ((rd_T27 l0 x7_1).f2), .int .i64 ((rd_T27 l0 x7_1).f3), .int .i64 ((rd_T27 l0 x7_1).f4)] 27 (0, 0))) := ⟨by (with_reducible repeat (first | refine aK ?_ _ | refine aN ?_ | refine aM ?_ _)); refine bM (cs := #[.int .i64 ((rd_T27 l0 x7_1).f0), .int .i64 ((rd_T27 l0 x7_1).f1), .int .i64 ((rd_T27 l0 x7_1).f2), .int .i64 ((rd_T27 l0 x7_1).f3), .int .i64 0]) ?_ 4 _ rfl; (with_reducible repeat (first | refine aK ?_ _ | refine aN ?_ | refine aM ?_ _)); refine bM (cs := #[.int .i64 ((rd_T27 l0 x7_1).f0), .int .i64 ((rd_T27 l0 x7_1).f1), .int .i64 ((rd_T27 l0 x7_1).f2), .int .i64 0, .int .i64 0]) ?_ 3 _ rfl; (with_reducible repeat (first | refine aK ?_ _ | refine aN ?_ | refine aM ?_ _)); refine bM (cs := #[.int .i64 ((rd_T27 l0 x7_1).f0), .int .i64 ((rd_T27 l0 x7_1).f1), .int .i64 0, .int .i64 0, .int .i64 0]) ?_ 2 _ rfl; (with_reducible repeat (first | refine aK ?_ _ | refine aN ?_ | refine aM ?_ _)); refine bM (cs := #[.int .i64 ((rd_T27 l0 x7_1).f0), .int .i64 0, .int .i64 0, .int .i64 0, .int .i64 0]) ?_ 1 _ rfl; (with_reducible repeat (first | refine aK ?_ _ | refine aN ?_ | refine aM ?_ _)); refine bM (cs := #[.int .i64 0, .int .i64 0, .int .i64 0, .int .i64 0, .int .i64 0]) ?_ 0 _ rfl; (with_reducible repeat (first | refine aK ?_ _ | refine aN ?_ | refine aM ?_ _)); exact BK300.out⟩
           have n1_ : aA (Below w.heap.size w (((((w19.setCell ⟨gb300, 0, none⟩ (.int .i64 ((rd_T27 l0 x7_1).f0))).setCell ⟨gb300, 1, none⟩ (.int .i64 ((rd_T27 l0 x7_1).f1))).setCell ⟨gb300, 2, none⟩ (.int .i64 ((rd_T27 l0 x7_1).f2))).setCell ⟨gb300, 3, none⟩ (.int .i64 ((rd_T27 l0 x7_1).f3))).setCell ⟨gb300, 4, none⟩ (.int .i64 ((rd_T27 l0 x7_1).f4)))) := ⟨by repeat (first | (with_reducible first | exact HB.out | apply aE | apply aC | apply aD | refine aJ ?_ GE300.out) | exact HB.out)⟩
           (try clear BK300)
           (try clear HB)
           generalize (((((w19.setCell ⟨gb300, 0, none⟩ (.int .i64 ((rd_T27 l0 x7_1).f0))).setCell ⟨gb300, 1, none⟩ (.int .i64 ((rd_T27 l0 x7_1).f1))).setCell ⟨gb300, 2, none⟩ (.int .i64 ((rd_T27 l0 x7_1).f2))).setCell ⟨gb300, 3, none⟩ (.int .i64 ((rd_T27 l0 x7_1).f3))).setCell ⟨gb300, 4, none⟩ (.int .i64 ((rd_T27 l0 x7_1).f4))) = w21 at n0_ n1_ ⊢
           have BK300 := n0_
           have HB := n1_
           clear n0_ n1_
           have n0_ := aA.mk (aN BK300.out)
           have n1_ := aA.mk (aD HB.out)
           clear BK300
           clear HB
           have BK300 := n0_
           have HB := n1_
           clear n0_ n1_
           have p302 : 0 ≤ ((ji8) : Int) := lE (by first | (with_reducible assumption) | assumption)
           have q302 : (ji8) < (l0.length : Int) := lE (by first | (with_reducible assumption) | assumption)
           obtain ⟨ad302, e302, hx302_0, hx302_1, hx302_2, hx302_3, hx302_4⟩ := at_T27 HR0.out (ji8) p302 q302
           have hw302_4 := hx302_4
           have hw302_3 := hx302_3
           have hw302_2 := hx302_2
           have hw302_1 := hx302_1
           have hw302_0 := hx302_0
           obtain rfl : ad299 = ad302 := (by injection e302)
           replace hx302_0 := (HB.out.cell (lD w _ hx302_0)).trans hx302_0
           replace hx302_1 := (HB.out.cell (lD w _ hx302_1)).trans hx302_1
           replace hx302_2 := (HB.out.cell (lD w _ hx302_2)).trans hx302_2
           replace hx302_3 := (HB.out.cell (lD w _ hx302_3)).trans hx302_3
           replace hx302_4 := (HB.out.cell (lD w _ hx302_4)).trans hx302_4
           replace p302 := eq_true p302
           replace q302 := eq_true q302
           refine start_ (n := 17) (S := fun w' => w'.cell? ⟨gb300, 0, none⟩ = some (.int .i64 ((rd_T27 l0 x7_1).f0)) ∧ w'.cell? ⟨gb300, 1, none⟩ = some (.int .i64 ((rd_T27 l0 x7_1).f1)) ∧ w'.cell? ⟨gb300, 2, none⟩ = some (.int .i64 ((rd_T27 l0 x7_1).f2)) ∧ w'.cell? ⟨gb300, 3, none⟩ = some (.int .i64 ((rd_T27 l0 x7_1).f3)) ∧ w'.cell? ⟨gb300, 4, none⟩ = some (.int .i64 ((rd_T27 l0 x7_1).f4)) ∧ w'.cell? (ad299.add (((ji8)).toNat * 5)) = some (.int .i64 ((rd_T27 l0 (ji8)).f0)) ∧ w'.cell? ⟨(ad299.add (((ji8)).toNat * 5)).block, (ad299.add (((ji8)).toNat * 5)).off + 1, none⟩ = some (.int .i64 ((rd_T27 l0 (ji8)).f1)) ∧ w'.cell? ⟨(ad299.add (((ji8)).toNat * 5)).block, (ad299.add (((ji8)).toNat * 5)).off + 2, none⟩ = some (.int .i64 ((rd_T27 l0 (ji8)).f2)) ∧ w'.cell? ⟨(ad299.add (((ji8)).toNat * 5)).block, (ad299.add (((ji8)).toNat * 5)).off + 3, none⟩ = some (.int .i64 ((rd_T27 l0 (ji8)).f3)) ∧ w'.cell? ⟨(ad299.add (((ji8)).toNat * 5)).block, (ad299.add (((ji8)).toNat * 5)).off + 4, none⟩ = some (.int .i64 ((rd_T27 l0 (ji8)).f4))) (ds := []) #[false, false, false, false, false, false, false, false, false, false, false, false, false, false, false, false, false] (by kernel_rfl) rfl rfl ⟨(aG BK300.out 0).trans rfl, (aG BK300.out 1).trans rfl, (aG BK300.out 2).trans rfl, (aG BK300.out 3).trans rfl, (aG BK300.out 4).trans rfl, ((HB.out.cell (lD w _ hw302_0)).trans hw302_0), ((HB.out.cell (lD w _ hw302_1)).trans hw302_1), ((HB.out.cell (lD w _ hw302_2)).trans hw302_2), ((HB.out.cell (lD w _ hw302_3)).trans hw302_3), ((HB.out.cell (lD w _ hw302_4)).trans hw302_4)⟩ (fun hHeld => ?_); refine with_tabW impl_SetOk.tab4 impl_SetOk.bits4 (fun HT_ HW_ => ?_)
           generalize w21.drew = w22 at BK300 HB hx302_0 hx302_1 hx302_2 hx302_3 hx302_4 hHeld ⊢
           refine take_ (i := 0) (N := some 12) (v := ?_) (a' := ?_) #[true, false, false, false, false, false, false, false, false, false, false, false, false, false, false, false, false] rfl rfl (bP HT_.out HW_.out (by kernel_rfl)) (fun _ _ _ h => h) (Or.inl ⟨by rfl, ?_⟩) hHeld ?_ ?_
           rotate_left
           ·rintro w' ⟨s0, s1, s2, s3, s4, s5, s6, s7, s8, s9⟩
            go_simp
            with_reducible rfl
           rotate_left
           ·simp only [Act.put, lA, lB, lC, aT, aU]
            rfl
           refine one_ (i := 1) (N := some 13) #[true, true, false, false, false, false, false, false, false, false, false, false, false, false, false, false, false] rfl rfl (one_of HT_.out (by kernel_rfl)) (by decide) (fun K hK => ?_)
           refine goes_ Try.func91 (by kernel_rfl) rfl #[.agg #[.int .i64 ((rd_T27 l0 x7_1).f0), .int .i64 ((rd_T27 l0 x7_1).f1), .int .i64 ((rd_T27 l0 x7_1).f2), .int .i64 ((rd_T27 l0 x7_1).f3), .int .i64 ((rd_T27 l0 x7_1).f4)]] (by rfl) rfl rfl (by (try simp only [List.map_toArray, List.map_cons, List.map_nil]); first | done | rfl | (simp only [List.length_drop, List.length_take]; rfl)) ?_
           with_reducible refine (impl_KeyOk.calls k1 ((rd_T27 l0 x7_1).f0) ((rd_T27 l0 x7_1).f1) ((rd_T27 l0 x7_1).f2) ((rd_T27 l0 x7_1).f3) ((rd_T27 l0 x7_1).f4) true _ A5.out).mono ?_
           rintro e w23 ⟨rfl, hb⟩
           refine ⟨_, rfl, ?_⟩
           have n0_ := aA.mk (aY (g := gb300) (o := .cells #[.int .i64 ((rd_T27 l0 x7_1).f0), .int .i64 ((rd_T27 l0 x7_1).f1), .int .i64 ((rd_T27 l0 x7_1).f2), .int .i64 ((rd_T27 l0 x7_1).f3), .int .i64 ((rd_T27 l0 x7_1).f4)] 27 (0, 0)) (by (with_reducible repeat (first | refine aK ?_ _ | refine aN ?_ | refine aM ?_ _)); exact BK300.out) hb)
           have n1_ := aA.mk (aV (by repeat (first | (with_reducible first | exact HB.out | apply aE | apply aC | apply aD | refine aJ ?_ GE300.out) | exact HB.out)) hb)
           clear BK300
           clear HB
           have BK300 := n0_
           have HB := n1_
           clear n0_ n1_
           (try clear hb)
           (try clear hb2)
           (try clear hk)
           (try clear hi)
           refine hK.out _ _ ⟨(aG BK300.out 0).trans rfl, (aG BK300.out 1).trans rfl, (aG BK300.out 2).trans rfl, (aG BK300.out 3).trans rfl, (aG BK300.out 4).trans rfl, ((HB.out.cell (lD w _ hw302_0)).trans hw302_0), ((HB.out.cell (lD w _ hw302_1)).trans hw302_1), ((HB.out.cell (lD w _ hw302_2)).trans hw302_2), ((HB.out.cell (lD w _ hw302_3)).trans hw302_3), ((HB.out.cell (lD w _ hw302_4)).trans hw302_4)⟩ (fun hHeld => ?_)
           clear hK K
           refine norm_ (a' := ?_) ?_ ?_
           rotate_left
           ·show Act.put _ (some 13) _ = _
            simp only [Act.put, lA, lB, lC, aT, aU]
            rfl
           refine aX (i := 2) (N := some 14) (v := ?_) (a' := ?_) #[true, true, true, false, false, false, false, false, false, false, false, false, false, false, false, false, false] rfl rfl (aW HT_.out (by kernel_rfl)) (fun _ _ _ h => h) (Or.inl ⟨by rfl, ?_⟩) ?_ ?_
           rotate_left
           ·intro w'
            go_simp
            with_reducible rfl
           rotate_left
           ·simp only [Act.put, lA, lB, lC, aT, aU]
            rfl
           refine aX (i := 3) (N := some 15) (v := ?_) (a' := ?_) #[true, true, true, true, false, false, false, false, false, false, false, false, false, false, false, false, false] rfl rfl (aW HT_.out (by kernel_rfl)) (fun _ _ _ h => h) (Or.inl ⟨by rfl, ?_⟩) ?_ ?_
           rotate_left
           ·intro w'
            go_simp
            with_reducible rfl
           rotate_left
           ·simp only [Act.put, lA, lB, lC, aT, aU]
            rfl
           refine aX (i := 4) (N := some 16) (v := ?_) (a' := ?_) #[true, true, true, true, true, false, false, false, false, false, false, false, false, false, false, false, false] rfl rfl (aW HT_.out (by kernel_rfl)) (fun _ _ _ h => h) (Or.inl ⟨by rfl, ?_⟩) ?_ ?_
           rotate_left
           ·intro w'
            go_simp
            with_reducible rfl
           rotate_left
           ·simp only [Act.put, lA, lB, lC, aT, aU]
            rfl
           refine aX (i := 5) (N := some 17) (v := ?_) (a' := ?_) #[true, true, true, true, true, true, false, false, false, false, false, false, false, false, false, false, false] rfl rfl (aW HT_.out (by kernel_rfl)) (fun _ _ _ h => h) (Or.inl ⟨by rfl, ?_⟩) ?_ ?_
           rotate_left
           ·intro w'
            go_simp
            with_reducible rfl
           rotate_left
           ·simp only [Act.put, lA, lB, lC, aT, aU]
            rfl
           refine aX (i := 6) (N := some 18) (v := ?_) (a' := ?_) #[true, true, true, true, true, true, true, false, false, false, false, false, false, false, false, false, false] rfl rfl (aW HT_.out (by kernel_rfl)) (fun _ _ _ h => h) (Or.inl ⟨by rfl, ?_⟩) ?_ ?_
           rotate_left
           ·intro w'
            go_simp
            with_reducible rfl
           rotate_left
           ·simp only [Act.put, lA, lB, lC, aT, aU]
            rfl
           refine aX (i := 7) (N := some 19) (v := ?_) (a' := ?_) #[true, true, true, true, true, true, true, true, false, false, false, false, false, false, false, false, false] rfl rfl (aW HT_.out (by kernel_rfl)) (fun _ _ _ h => h) (Or.inl ⟨by rfl, ?_⟩) ?_ ?_
           rotate_left
           ·intro w'
            go_simp
            with_reducible rfl
           rotate_left
           ·simp only [Act.put, lA, lB, lC, aT, aU]
            rfl
           refine aX (i := 8) (N := some 20) (v := ?_) (a' := ?_) #[true, true, true, true, true, true, true, true, true, false, false, false, false, false, false, false, false] rfl rfl (aW HT_.out (by kernel_rfl)) (fun _ _ _ h => h) (Or.inl ⟨by rfl, ?_⟩) ?_ ?_
           rotate_left
           ·intro w'
            go_simp
            with_reducible rfl
           rotate_left
           ·simp only [Act.put, lA, lB, lC, aT, aU]
            rfl
           refine aX (i := 9) (N := some 21) (v := ?_) (a' := ?_) #[true, true, true, true, true, true, true, true, true, true, false, false, false, false, false, false, false] rfl rfl (aW HT_.out (by kernel_rfl)) (fun _ _ _ h => h) (Or.inl ⟨by rfl, ?_⟩) ?_ ?_
           rotate_left
           ·intro w'
            go_simp
            with_reducible rfl
           rotate_left
           ·simp only [Act.put, lA, lB, lC, aT, aU]
            rfl
           refine aX (i := 10) (N := some 22) (v := ?_) (a' := ?_) #[true, true, true, true, true, true, true, true, true, true, true, false, false, false, false, false, false] rfl rfl (aW HT_.out (by kernel_rfl)) (fun _ _ _ h => h) (Or.inl ⟨by rfl, ?_⟩) ?_ ?_
           rotate_left
           ·intro w'
            go_simp
            with_reducible rfl
           rotate_left
           ·simp only [Act.put, lA, lB, lC, aT, aU]
            rfl
           refine take_ (i := 11) (N := some 23) (v := ?_) (a' := ?_) #[true, true, true, true, true, true, true, true, true, true, true, true, false, false, false, false, false] rfl rfl (bP HT_.out HW_.out (by kernel_rfl)) (fun _ _ _ h => h) (Or.inl ⟨by rfl, ?_⟩) hHeld ?_ ?_
           rotate_left
           ·rintro w' ⟨s0, s1, s2, s3, s4, s5, s6, s7, s8, s9⟩
            go_simp
            with_reducible rfl
           rotate_left
           ·simp only [Act.put, lA, lB, lC, aT, aU]
            rfl
           refine take_ (i := 12) (N := some 24) (v := ?_) (a' := ?_) #[true, true, true, true, true, true, true, true, true, true, true, true, true, false, false, false, false] rfl rfl (bP HT_.out HW_.out (by kernel_rfl)) (fun _ _ _ h => h) (Or.inl ⟨by rfl, ?_⟩) hHeld ?_ ?_
           rotate_left
           ·rintro w' ⟨s0, s1, s2, s3, s4, s5, s6, s7, s8, s9⟩
            go_simp
            with_reducible rfl
           rotate_left
           ·simp only [Act.put, lA, lB, lC, aT, aU]
            rfl
           refine one_ (i := 13) (N := some 25) #[true, true, true, true, true, true, true, true, true, true, true, true, true, true, false, false, false] rfl rfl (one_of HT_.out (by kernel_rfl)) (by decide) (fun K hK => ?_)
           refine goes_ Try.func92 (by kernel_rfl) rfl #[.agg #[.int .i64 ((rd_T27 l0 (ji8)).f0), .int .i64 ((rd_T27 l0 (ji8)).f1), .int .i64 ((rd_T27 l0 (ji8)).f2), .int .i64 ((rd_T27 l0 (ji8)).f3), .int .i64 ((rd_T27 l0 (ji8)).f4)], .agg #[.int .i64 ((rd_T27 l0 x7_1).f0), .int .i64 ((rd_T27 l0 x7_1).f1), .int .i64 ((rd_T27 l0 x7_1).f2), .int .i64 ((rd_T27 l0 x7_1).f3), .int .i64 ((rd_T27 l0 x7_1).f4)]] (by rfl) rfl rfl (by (try simp only [List.map_toArray, List.map_cons, List.map_nil]); first | done | (simp only [hji8]; rfl) | rfl | (simp only [List.length_drop, List.length_take]; rfl)) ?_
           with_reducible refine (impl_LessKey.calls ((rd_T27 l0 (ji8)).f0) ((rd_T27 l0 (ji8)).f1) ((rd_T27 l0 (ji8)).f2) ((rd_T27 l0 (ji8)).f3) ((rd_T27 l0 (ji8)).f4) ((rd_T27 l0 x7_1).f0) ((rd_T27 l0 x7_1).f1) ((rd_T27 l0 x7_1).f2) ((rd_T27 l0 x7_1).f3) ((rd_T27 l0 x7_1).f4) false _ A11.out).mono ?_
           rintro e w24 ⟨rfl, hb⟩
           refine ⟨_, rfl, ?_⟩
           have n0_ := aA.mk (aY (g := gb300) (o := .cells #[.int .i64 ((rd_T27 l0 x7_1).f0), .int .i64 ((rd_T27 l0 x7_1).f1), .int .i64 ((rd_T27 l0 x7_1).f2), .int .i64 ((rd_T27 l0 x7_1).f3), .int .i64 ((rd_T27 l0 x7_1).f4)] 27 (0, 0)) (by (with_reducible repeat (first | refine aK ?_ _ | refine aN ?_ | refine aM ?_ _)); exact BK300.out) hb)
           have n1_ := aA.mk (aV (by repeat (first | (with_reducible first | exact HB.out | apply aE | apply aC | apply aD | refine aJ ?_ GE300.out) | exact HB.out)) hb)
           clear BK300
           clear HB
           have BK300 := n0_
           have HB := n1_
           clear n0_ n1_
           (try clear hb)
           (try clear hb2)
           (try clear hk)
           (try clear hi)
           refine hK.out _ _ ⟨(aG BK300.out 0).trans rfl, (aG BK300.out 1).trans rfl, (aG BK300.out 2).trans rfl, (aG BK300.out 3).trans rfl, (aG BK300.out 4).trans rfl, ((HB.out.cell (lD w _ hw302_0)).trans hw302_0), ((HB.out.cell (lD w _ hw302_1)).trans hw302_1), ((HB.out.cell (lD w _ hw302_2)).trans hw302_2), ((HB.out.cell (lD w _ hw302_3)).trans hw302_3), ((HB.out.cell (lD w _ hw302_4)).trans hw302_4)⟩ (fun hHeld => ?_)
           clear hK K
           refine norm_ (a' := ?_) ?_ ?_
           rotate_left
           ·show Act.put _ (some 25) _ = _
            simp only [Act.put, lA, lB, lC, aT, aU]
            rfl
           refine aX (i := 14) (N := some 26) (v := ?_) (a' := ?_) #[true, true, true, true, true, true, true, true, true, true, true, true, true, true, true, false, false] rfl rfl (aW HT_.out (by kernel_rfl)) (fun _ _ _ h => h) (Or.inl ⟨by rfl, ?_⟩) ?_ ?_
           rotate_left
           ·intro w'
            go_simp
            with_reducible rfl
           rotate_left
           ·simp only [Act.put, lA, lB, lC, aT, aU]
            rfl
           refine aX (i := 15) (N := some 27) (v := ?_) (a' := ?_) #[true, true, true, true, true, true, true, true, true, true, true, true, true, true, true, true, false] rfl rfl (aW HT_.out (by kernel_rfl)) (fun _ _ _ h => h) (Or.inl ⟨by rfl, ?_⟩) ?_ ?_
           rotate_left
           ·intro w'
            go_simp
            with_reducible rfl
           rotate_left
           ·simp only [Act.put, lA, lB, lC, aT, aU]
            rfl
           refine aX (i := 16) (N := some 28) (v := ?_) (a' := ?_) #[true, true, true, true, true, true, true, true, true, true, true, true, true, true, true, true, true] rfl rfl (aW HT_.out (by kernel_rfl)) (fun _ _ _ h => h) (Or.inl ⟨by rfl, ?_⟩) ?_ ?_
           rotate_left
           ·intro w'
            go_simp
            with_reducible rfl
           rotate_left
           ·simp only [Act.put, lA, lB, lC, aT, aU]
            rfl
           refine done_ (done_of HT_.out (by kernel_rfl)) ?_
           try go_wp2
           go_ret
           exact ⟨by first | rfl | (simp [errW_none, errW_some] <;> rfl) | (simp only [← hji8]; first | rfl | (simp [errW_none, errW_some] <;> rfl)) | (simp [*, errW_none, errW_some] <;> rfl), by repeat (first | (with_reducible first | exact HB.out | apply aE | apply aC | apply aD | refine aJ ?_ GE300.out) | exact HB.out)⟩
         ·rw [if_neg c10] at H
          exact absurd H (by simp)
        ·rw [if_neg c9] at H
         exact absurd H (by simp)
       ·rw [if_neg c7] at H
        have c7b0 : decide (0 < x7_1) = false := decide_eq_false c7
        clear c7
        have H' := aA.mk H
        clear H
        have p299 : 0 ≤ (x7_1 : Int) := lE (by first | (with_reducible assumption) | assumption)
        have q299 : x7_1 < (l0.length : Int) := lE (by first | (with_reducible assumption) | assumption)
        obtain ⟨ad299, e299, hx299_0, hx299_1, hx299_2, hx299_3, hx299_4⟩ := at_T27 HR0.out x7_1 p299 q299
        cases e299
        replace hx299_0 := (HB.out.cell (lD w _ hx299_0)).trans hx299_0
        replace hx299_1 := (HB.out.cell (lD w _ hx299_1)).trans hx299_1
        replace hx299_2 := (HB.out.cell (lD w _ hx299_2)).trans hx299_2
        replace hx299_3 := (HB.out.cell (lD w _ hx299_3)).trans hx299_3
        replace hx299_4 := (HB.out.cell (lD w _ hx299_4)).trans hx299_4
        replace p299 := eq_true p299
        replace q299 := eq_true q299
        try go_wp2_with (first | ((with_reducible refine bF (N := 4) rfl ?_); refine bH ?hg (N := 4) ?hd (cs := #[.int .i64 0, .int .i64 0, .int .i64 0, .int .i64 0, .int .i64 0]) (t := 27) ?hr ?_; (case hd => rfl); (case hg => rfl); (case hr => first | (go_simp; done) | (go_simp; rfl)); intro gb300 hg w25 hbox hb; have n0_ := aA.mk (aV (by repeat (first | (with_reducible first | exact HB.out | apply aE | apply aC | apply aD) | exact HB.out)) hb); have n1_ := aA.mk (hbox); have n2_ := aA.mk ((by rw [hg]; exact (aQ (by repeat (first | (with_reducible first | exact HB.out | apply aE | apply aC | apply aD) | exact HB.out))) : w.heap.size ≤ gb300)); have n3_ := aA.mk ((by rw [hg]; exact (aQ (by repeat (first | (with_reducible first | exact HB.out | apply aE | apply aC | apply aD) | exact HB.out))) : w.heap.size ≤ gb300)); clear HB; have HB := n0_; have BK300 := n1_; have GW300 := n2_; have GE300 := n3_; clear n0_ n1_ n2_ n3_; clear hb hbox hg; have hcz26_0 : w25.cell? ⟨gb300, 0, none⟩ = some (.int .i64 0) := (aG BK300.out 0).trans rfl; have hcz26_1 : w25.cell? ⟨gb300, 1, none⟩ = some (.int .i64 0) := (aG BK300.out 1).trans rfl; have hcz26_2 : w25.cell? ⟨gb300, 2, none⟩ = some (.int .i64 0) := (aG BK300.out 2).trans rfl; have hcz26_3 : w25.cell? ⟨gb300, 3, none⟩ = some (.int .i64 0) := (aG BK300.out 3).trans rfl; have hcz26_4 : w25.cell? ⟨gb300, 4, none⟩ = some (.int .i64 0) := (aG BK300.out 4).trans rfl; have hfz26_0 := aH BK300.out 0; have hfz26_1 := aH BK300.out 1; have hfz26_2 := aH BK300.out 2; have hfz26_3 := aH BK300.out 3; have hfz26_4 := aH BK300.out 4))
        have n0_ : aA ((((((w25.setCell ⟨gb300, 0, none⟩ (.int .i64 ((rd_T27 l0 x7_1).f0))).setCell ⟨gb300, 1, none⟩ (.int .i64 ((rd_T27 l0 x7_1).f1))).setCell ⟨gb300, 2, none⟩ (.int .i64 ((rd_T27 l0 x7_1).f2))).setCell ⟨gb300, 3, none⟩ (.int .i64 ((rd_T27 l0 x7_1).f3))).setCell ⟨gb300, 4, none⟩ (.int .i64 ((rd_T27 l0 x7_1).f4))).heap[gb300]? = some (.cells #[.int .i64 ((rd_T27 l0 x7_1).f0), .int .i64 ((rd_T27 l0 x7_1).f1), .int .i64 ((rd_T27 l0 x7_1).f2), .int .i64 ((rd_T27 l0 x7_1).f3), .int .i64 ((rd_T27 l0 x7_1).f4)] 27 (0, 0))) := ⟨by (with_reducible repeat (first | refine aK ?_ _ | refine aN ?_ | refine aM ?_ _)); refine bM (cs := #[.int .i64 ((rd_T27 l0 x7_1).f0), .int .i64 ((rd_T27 l0 x7_1).f1), .int .i64 ((rd_T27 l0 x7_1).f2), .int .i64 ((rd_T27 l0 x7_1).f3), .int .i64 0]) ?_ 4 _ rfl; (with_reducible repeat (first | refine aK ?_ _ | refine aN ?_ | refine aM ?_ _)); refine bM (cs := #[.int .i64 ((rd_T27 l0 x7_1).f0), .int .i64 ((rd_T27 l0 x7_1).f1), .int .i64 ((rd_T27 l0 x7_1).f2), .int .i64 0, .int .i64 0]) ?_ 3 _ rfl; (with_reducible repeat (first | refine aK ?_ _ | refine aN ?_ | refine aM ?_ _)); refine bM (cs := #[.int .i64 ((rd_T27 l0 x7_1).f0), .int .i64 ((rd_T27 l0 x7_1).f1), .int .i64 0, .int .i64 0, .int .i64 0]) ?_ 2 _ rfl; (with_reducible repeat (first | refine aK ?_ _ | refine aN ?_ | refine aM ?_ _)); refine bM (cs := #[.int .i64 ((rd_T27 l0 x7_1).f0), .int .i64 0, .int .i64 0, .int .i64 0, .int .i64 0]) ?_ 1 _ rfl; (with_reducible repeat (first | refine aK ?_ _ | refine aN ?_ | refine aM ?_ _)); refine bM (cs := #[.int .i64 0, .int .i64 0, .int .i64 0, .int .i64 0, .int .i64 0]) ?_ 0 _ rfl; (with_reducible repeat (first | refine aK ?_ _ | refine aN ?_ | refine aM ?_ _)); exact BK300.out⟩
        have n1_ : aA (Below w.heap.size w (((((w25.setCell ⟨gb300, 0, none⟩ (.int .i64 ((rd_T27 l0 x7_1).f0))).setCell ⟨gb300, 1, none⟩ (.int .i64 ((rd_T27 l0 x7_1).f1))).setCell ⟨gb300, 2, none⟩ (.int .i64 ((rd_T27 l0 x7_1).f2))).setCell ⟨gb300, 3, none⟩ (.int .i64 ((rd_T27 l0 x7_1).f3))).setCell ⟨gb300, 4, none⟩ (.int .i64 ((rd_T27 l0 x7_1).f4)))) := ⟨by repeat (first | (with_reducible first | exact HB.out | apply aE | apply aC | apply aD | refine aJ ?_ GE300.out) | exact HB.out)⟩
        (try clear BK300)
        (try clear HB)
        generalize (((((w25.setCell ⟨gb300, 0, none⟩ (.int .i64 ((rd_T27 l0 x7_1).f0))).setCell ⟨gb300, 1, none⟩ (.int .i64 ((rd_T27 l0 x7_1).f1))).setCell ⟨gb300, 2, none⟩ (.int .i64 ((rd_T27 l0 x7_1).f2))).setCell ⟨gb300, 3, none⟩ (.int .i64 ((rd_T27 l0 x7_1).f3))).setCell ⟨gb300, 4, none⟩ (.int .i64 ((rd_T27 l0 x7_1).f4))) = w27 at n0_ n1_ ⊢
        have BK300 := n0_
        have HB := n1_
        clear n0_ n1_
        have n0_ := aA.mk (aN BK300.out)
        have n1_ := aA.mk (aD HB.out)
        clear BK300
        clear HB
        have BK300 := n0_
        have HB := n1_
        clear n0_ n1_
        refine start_ (n := 17) (S := fun w' => w'.cell? ⟨gb300, 0, none⟩ = some (.int .i64 ((rd_T27 l0 x7_1).f0)) ∧ w'.cell? ⟨gb300, 1, none⟩ = some (.int .i64 ((rd_T27 l0 x7_1).f1)) ∧ w'.cell? ⟨gb300, 2, none⟩ = some (.int .i64 ((rd_T27 l0 x7_1).f2)) ∧ w'.cell? ⟨gb300, 3, none⟩ = some (.int .i64 ((rd_T27 l0 x7_1).f3)) ∧ w'.cell? ⟨gb300, 4, none⟩ = some (.int .i64 ((rd_T27 l0 x7_1).f4))) (ds := []) #[false, false, false, false, false, false, false, false, false, false, false, false, false, false, false, false, false] (by kernel_rfl) rfl rfl ⟨(aG BK300.out 0).trans rfl, (aG BK300.out 1).trans rfl, (aG BK300.out 2).trans rfl, (aG BK300.out 3).trans rfl, (aG BK300.out 4).trans rfl⟩ (fun hHeld => ?_); refine with_tabW impl_SetOk.tab4 impl_SetOk.bits4 (fun HT_ HW_ => ?_)
        generalize w27.drew = w28 at BK300 HB hHeld ⊢
        refine take_ (i := 0) (N := some 12) (v := ?_) (a' := ?_) #[true, false, false, false, false, false, false, false, false, false, false, false, false, false, false, false, false] rfl rfl (bP HT_.out HW_.out (by kernel_rfl)) (fun _ _ _ h => h) (Or.inl ⟨by rfl, ?_⟩) hHeld ?_ ?_
        rotate_left
        ·rintro w' ⟨s0, s1, s2, s3, s4⟩
         go_simp
         with_reducible rfl
        rotate_left
        ·simp only [Act.put, lA, lB, lC, aT, aU]
         rfl
        refine one_ (i := 1) (N := some 13) #[true, true, false, false, false, false, false, false, false, false, false, false, false, false, false, false, false] rfl rfl (one_of HT_.out (by kernel_rfl)) (by decide) (fun K hK => ?_)
        refine goes_ Try.func91 (by kernel_rfl) rfl #[.agg #[.int .i64 ((rd_T27 l0 x7_1).f0), .int .i64 ((rd_T27 l0 x7_1).f1), .int .i64 ((rd_T27 l0 x7_1).f2), .int .i64 ((rd_T27 l0 x7_1).f3), .int .i64 ((rd_T27 l0 x7_1).f4)]] (by rfl) rfl rfl (by (try simp only [List.map_toArray, List.map_cons, List.map_nil]); first | done | rfl | (simp only [List.length_drop, List.length_take]; rfl)) ?_
        with_reducible refine (impl_KeyOk.calls k1 ((rd_T27 l0 x7_1).f0) ((rd_T27 l0 x7_1).f1) ((rd_T27 l0 x7_1).f2) ((rd_T27 l0 x7_1).f3) ((rd_T27 l0 x7_1).f4) true _ A5.out).mono ?_
        rintro e w29 ⟨rfl, hb⟩
        refine ⟨_, rfl, ?_⟩
        have n0_ := aA.mk (aY (g := gb300) (o := .cells #[.int .i64 ((rd_T27 l0 x7_1).f0), .int .i64 ((rd_T27 l0 x7_1).f1), .int .i64 ((rd_T27 l0 x7_1).f2), .int .i64 ((rd_T27 l0 x7_1).f3), .int .i64 ((rd_T27 l0 x7_1).f4)] 27 (0, 0)) (by (with_reducible repeat (first | refine aK ?_ _ | refine aN ?_ | refine aM ?_ _)); exact BK300.out) hb)
        have n1_ := aA.mk (aV (by repeat (first | (with_reducible first | exact HB.out | apply aE | apply aC | apply aD | refine aJ ?_ GE300.out) | exact HB.out)) hb)
        clear BK300
        clear HB
        have BK300 := n0_
        have HB := n1_
        clear n0_ n1_
        (try clear hb)
        (try clear hb2)
        (try clear hk)
        (try clear hi)
        refine hK.out _ _ ⟨(aG BK300.out 0).trans rfl, (aG BK300.out 1).trans rfl, (aG BK300.out 2).trans rfl, (aG BK300.out 3).trans rfl, (aG BK300.out 4).trans rfl⟩ (fun hHeld => ?_)
        clear hK K
        refine norm_ (a' := ?_) ?_ ?_
        rotate_left
        ·show Act.put _ (some 13) _ = _
         simp only [Act.put, lA, lB, lC, aT, aU]
         rfl
        refine aX (i := 2) (N := some 14) (v := ?_) (a' := ?_) #[true, true, true, false, false, false, false, false, false, false, false, false, false, false, false, false, false] rfl rfl (aW HT_.out (by kernel_rfl)) (fun _ _ _ h => h) (Or.inl ⟨by rfl, ?_⟩) ?_ ?_
        rotate_left
        ·intro w'
         go_simp
         with_reducible rfl
        rotate_left
        ·simp only [Act.put, lA, lB, lC, aT, aU]
         rfl
        refine aX (i := 3) (N := some 15) (v := ?_) (a' := ?_) #[true, true, true, true, false, false, false, false, false, false, false, false, false, false, false, false, false] rfl rfl (aW HT_.out (by kernel_rfl)) (fun _ _ _ h => h) (Or.inl ⟨by rfl, ?_⟩) ?_ ?_
        rotate_left
        ·intro w'
         go_simp
         with_reducible rfl
        rotate_left
        ·simp only [Act.put, lA, lB, lC, aT, aU]
         rfl
        refine aX (i := 4) (N := some 16) (v := ?_) (a' := ?_) #[true, true, true, true, true, false, false, false, false, false, false, false, false, false, false, false, false] rfl rfl (aW HT_.out (by kernel_rfl)) (fun _ _ _ h => h) (Or.inl ⟨by rfl, ?_⟩) ?_ ?_
        rotate_left
        ·intro w'
         go_simp
         with_reducible rfl
        rotate_left
        ·simp only [Act.put, lA, lB, lC, aT, aU]
         rfl
        refine aX (i := 5) (N := some 17) (v := ?_) (a' := ?_) #[true, true, true, true, true, true, false, false, false, false, false, false, false, false, false, false, false] rfl rfl (aW HT_.out (by kernel_rfl)) (fun _ _ _ h => h) (Or.inl ⟨by rfl, ?_⟩) ?_ ?_
        rotate_left
        ·intro w'
         go_simp
         with_reducible rfl
        rotate_left
        ·simp only [Act.put, lA, lB, lC, aT, aU]
         rfl
        refine aX (i := 6) (N := some 18) (v := ?_) (a' := ?_) #[true, true, true, true, true, true, true, false, false, false, false, false, false, false, false, false, false] rfl rfl (aW HT_.out (by kernel_rfl)) (fun _ _ _ h => h) (Or.inl ⟨by rfl, ?_⟩) ?_ ?_
        rotate_left
        ·intro w'
         go_simp
         with_reducible rfl
        rotate_left
        ·simp only [Act.put, lA, lB, lC, aT, aU]
         rfl
        refine aX (i := 7) (N := some 19) (v := undef) (a' := ?_) #[true, true, true, true, true, true, true, true, false, false, false, false, false, false, false, false, false] rfl rfl (aW HT_.out (by kernel_rfl)) (fun _ _ _ h => h) (Or.inr ⟨by rfl, rfl⟩) ?_ ?_
        rotate_left
        ·simp only [Act.put, lA, lB, lC, aT, aU]
         rfl
        refine aX (i := 8) (N := some 20) (v := undef) (a' := ?_) #[true, true, true, true, true, true, true, true, true, false, false, false, false, false, false, false, false] rfl rfl (aW HT_.out (by kernel_rfl)) (fun _ _ _ h => h) (Or.inr ⟨by rfl, rfl⟩) ?_ ?_
        rotate_left
        ·simp only [Act.put, lA, lB, lC, aT, aU]
         rfl
        refine aX (i := 9) (N := some 21) (v := undef) (a' := ?_) #[true, true, true, true, true, true, true, true, true, true, false, false, false, false, false, false, false] rfl rfl (aW HT_.out (by kernel_rfl)) (fun _ _ _ h => h) (Or.inr ⟨by rfl, rfl⟩) ?_ ?_
        rotate_left
        ·simp only [Act.put, lA, lB, lC, aT, aU]
         rfl
        refine aX (i := 10) (N := some 22) (v := undef) (a' := ?_) #[true, true, true, true, true, true, true, true, true, true, true, false, false, false, false, false, false] rfl rfl (aW HT_.out (by kernel_rfl)) (fun _ _ _ h => h) (Or.inr ⟨by rfl, rfl⟩) ?_ ?_
        rotate_left
        ·simp only [Act.put, lA, lB, lC, aT, aU]
         rfl
        refine aX (i := 11) (N := some 23) (v := undef) (a' := ?_) #[true, true, true, true, true, true, true, true, true, true, true, true, false, false, false, false, false] rfl rfl (aW HT_.out (by kernel_rfl)) (fun _ _ _ h => h) (Or.inr ⟨by rfl, rfl⟩) ?_ ?_
        rotate_left
        ·simp only [Act.put, lA, lB, lC, aT, aU]
         rfl
        refine aX (i := 12) (N := some 24) (v := undef) (a' := ?_) #[true, true, true, true, true, true, true, true, true, true, true, true, true, false, false, false, false] rfl rfl (aW HT_.out (by kernel_rfl)) (fun _ _ _ h => h) (Or.inr ⟨by rfl, rfl⟩) ?_ ?_
        rotate_left
        ·simp only [Act.put, lA, lB, lC, aT, aU]
         rfl
        refine aX (i := 13) (N := some 25) (v := undef) (a' := ?_) #[true, true, true, true, true, true, true, true, true, true, true, true, true, true, false, false, false] rfl rfl (aW HT_.out (by kernel_rfl)) (fun _ _ _ h => h) (Or.inr ⟨by rfl, rfl⟩) ?_ ?_
        rotate_left
        ·simp only [Act.put, lA, lB, lC, aT, aU]
         rfl
        refine aX (i := 14) (N := some 26) (v := undef) (a' := ?_) #[true, true, true, true, true, true, true, true, true, true, true, true, true, true, true, false, false] rfl rfl (aW HT_.out (by kernel_rfl)) (fun _ _ _ h => h) (Or.inr ⟨by rfl, rfl⟩) ?_ ?_
        rotate_left
        ·simp only [Act.put, lA, lB, lC, aT, aU]
         rfl
        refine aX (i := 15) (N := some 27) (v := ?_) (a' := ?_) #[true, true, true, true, true, true, true, true, true, true, true, true, true, true, true, true, false] rfl rfl (aW HT_.out (by kernel_rfl)) (fun _ _ _ h => h) (Or.inl ⟨by rfl, ?_⟩) ?_ ?_
        rotate_left
        ·intro w'
         go_simp
         with_reducible rfl
        rotate_left
        ·simp only [Act.put, lA, lB, lC, aT, aU]
         rfl
        refine aX (i := 16) (N := some 28) (v := ?_) (a' := ?_) #[true, true, true, true, true, true, true, true, true, true, true, true, true, true, true, true, true] rfl rfl (aW HT_.out (by kernel_rfl)) (fun _ _ _ h => h) (Or.inl ⟨by rfl, ?_⟩) ?_ ?_
        rotate_left
        ·intro w'
         go_simp
         with_reducible rfl
        rotate_left
        ·simp only [Act.put, lA, lB, lC, aT, aU]
         rfl
        refine done_ (done_of HT_.out (by kernel_rfl)) ?_
        try go_wp2
        go_roundg k1
        case measure => have := HK1.out; omega
        case rel => exact ⟨(wrap64 (x7_1 + 1)), (by first | rfl | (simp; done) | (simp [*]; done)), H', ⟨by have := HK1.out; omega⟩, ⟨by repeat (first | (with_reducible first | exact HB.out | apply aE | apply aC | apply aD | refine aJ ?_ GE300.out) | exact HB.out)⟩⟩
      ·replace c6 := Bool.eq_false_iff.mpr c6
       subst c6
       have H1 : (some false) = some r := by rw [if_neg (show ¬ (false = true) by decide)] at H; exact H
       clear H
       have H := H1
       clear H1
       obtain rfl := Option.some.inj H
       have p299 : 0 ≤ (x7_1 : Int) := lE (by first | (with_reducible assumption) | assumption)
       have q299 : x7_1 < (l0.length : Int) := lE (by first | (with_reducible assumption) | assumption)
       obtain ⟨ad299, e299, hx299_0, hx299_1, hx299_2, hx299_3, hx299_4⟩ := at_T27 HR0.out x7_1 p299 q299
       cases e299
       replace hx299_0 := (HB.out.cell (lD w _ hx299_0)).trans hx299_0
       replace hx299_1 := (HB.out.cell (lD w _ hx299_1)).trans hx299_1
       replace hx299_2 := (HB.out.cell (lD w _ hx299_2)).trans hx299_2
       replace hx299_3 := (HB.out.cell (lD w _ hx299_3)).trans hx299_3
       replace hx299_4 := (HB.out.cell (lD w _ hx299_4)).trans hx299_4
       replace p299 := eq_true p299
       replace q299 := eq_true q299
       try go_wp2_with (first | ((with_reducible refine bF (N := 4) rfl ?_); refine bH ?hg (N := 4) ?hd (cs := #[.int .i64 0, .int .i64 0, .int .i64 0, .int .i64 0, .int .i64 0]) (t := 27) ?hr ?_; (case hd => rfl); (case hg => rfl); (case hr => first | (go_simp; done) | (go_simp; rfl)); intro gb300 hg w30 hbox hb; have n0_ := aA.mk (aV (by repeat (first | (with_reducible first | exact HB.out | apply aE | apply aC | apply aD) | exact HB.out)) hb); have n1_ := aA.mk (hbox); have n2_ := aA.mk ((by rw [hg]; exact (aQ (by repeat (first | (with_reducible first | exact HB.out | apply aE | apply aC | apply aD) | exact HB.out))) : w.heap.size ≤ gb300)); have n3_ := aA.mk ((by rw [hg]; exact (aQ (by repeat (first | (with_reducible first | exact HB.out | apply aE | apply aC | apply aD) | exact HB.out))) : w.heap.size ≤ gb300)); clear HB; have HB := n0_; have BK300 := n1_; have GW300 := n2_; have GE300 := n3_; clear n0_ n1_ n2_ n3_; clear hb hbox hg; have hcz31_0 : w30.cell? ⟨gb300, 0, none⟩ = some (.int .i64 0) := (aG BK300.out 0).trans rfl; have hcz31_1 : w30.cell? ⟨gb300, 1, none⟩ = some (.int .i64 0) := (aG BK300.out 1).trans rfl; have hcz31_2 : w30.cell? ⟨gb300, 2, none⟩ = some (.int .i64 0) := (aG BK300.out 2).trans rfl; have hcz31_3 : w30.cell? ⟨gb300, 3, none⟩ = some (.int .i64 0) := (aG BK300.out 3).trans rfl; have hcz31_4 : w30.cell? ⟨gb300, 4, none⟩ = some (.int .i64 0) := (aG BK300.out 4).trans rfl; have hfz31_0 := aH BK300.out 0; have hfz31_1 := aH BK300.out 1; have hfz31_2 := aH BK300.out 2; have hfz31_3 := aH BK300.out 3; have hfz31_4 := aH BK300.out 4))
       have n0_ : aA ((((((w30.setCell ⟨gb300, 0, none⟩ (.int .i64 ((rd_T27 l0 x7_1).f0))).setCell ⟨gb300, 1, none⟩ (.int .i64 ((rd_T27 l0 x7_1).f1))).setCell ⟨gb300, 2, none⟩ (.int .i64 ((rd_T27 l0 x7_1).f2))).setCell ⟨gb300, 3, none⟩ (.int .i64 ((rd_T27 l0 x7_1).f3))).setCell ⟨gb300, 4, none⟩ (.int .i64 ((rd_T27 l0 x7_1).f4))).heap[gb300]? = some (.cells #[.int .i64 ((rd_T27 l0 x7_1).f0), .int .i64 ((rd_T27 l0 x7_1).f1), .int .i64 ((rd_T27 l0 x7_1).f2), .int .i64 ((rd_T27 l0 x7_1).f3), .int .i64 ((rd_T27 l0 x7_1).f4)] 27 (0, 0))) := ⟨by (with_reducible repeat (first | refine aK ?_ _ | refine aN ?_ | refine aM ?_ _)); refine bM (cs := #[.int .i64 ((rd_T27 l0 x7_1).f0), .int .i64 ((rd_T27 l0 x7_1).f1), .int .i64 ((rd_T27 l0 x7_1).f2), .int .i64 ((rd_T27 l0 x7_1).f3), .int .i64 0]) ?_ 4 _ rfl; (with_reducible repeat (first | refine aK ?_ _ | refine aN ?_ | refine aM ?_ _)); refine bM (cs := #[.int .i64 ((rd_T27 l0 x7_1).f0), .int .i64 ((rd_T27 l0 x7_1).f1), .int .i64 ((rd_T27 l0 x7_1).f2), .int .i64 0, .int .i64 0]) ?_ 3 _ rfl; (with_reducible repeat (first | refine aK ?_ _ | refine aN ?_ | refine aM ?_ _)); refine bM (cs := #[.int .i64 ((rd_T27 l0 x7_1).f0), .int .i64 ((rd_T27 l0 x7_1).f1), .int .i64 0, .int .i64 0, .int .i64 0]) ?_ 2 _ rfl; (with_reducible repeat (first | refine aK ?_ _ | refine aN ?_ | refine aM ?_ _)); refine bM (cs := #[.int .i64 ((rd_T27 l0 x7_1).f0), .int .i64 0, .int .i64 0, .int .i64 0, .int .i64 0]) ?_ 1 _ rfl; (with_reducible repeat (first | refine aK ?_ _ | refine aN ?_ | refine aM ?_ _)); refine bM (cs := #[.int .i64 0, .int .i64 0, .int .i64 0, .int .i64 0, .int .i64 0]) ?_ 0 _ rfl; (with_reducible repeat (first | refine aK ?_ _ | refine aN ?_ | refine aM ?_ _)); exact BK300.out⟩
       have n1_ : aA (Below w.heap.size w (((((w30.setCell ⟨gb300, 0, none⟩ (.int .i64 ((rd_T27 l0 x7_1).f0))).setCell ⟨gb300, 1, none⟩ (.int .i64 ((rd_T27 l0 x7_1).f1))).setCell ⟨gb300, 2, none⟩ (.int .i64 ((rd_T27 l0 x7_1).f2))).setCell ⟨gb300, 3, none⟩ (.int .i64 ((rd_T27 l0 x7_1).f3))).setCell ⟨gb300, 4, none⟩ (.int .i64 ((rd_T27 l0 x7_1).f4)))) := ⟨by repeat (first | (with_reducible first | exact HB.out | apply aE | apply aC | apply aD | refine aJ ?_ GE300.out) | exact HB.out)⟩
       (try clear BK300)
       (try clear HB)
       generalize (((((w30.setCell ⟨gb300, 0, none⟩ (.int .i64 ((rd_T27 l0 x7_1).f0))).setCell ⟨gb300, 1, none⟩ (.int .i64 ((rd_T27 l0 x7_1).f1))).setCell ⟨gb300, 2, none⟩ (.int .i64 ((rd_T27 l0 x7_1).f2))).setCell ⟨gb300, 3, none⟩ (.int .i64 ((rd_T27 l0 x7_1).f3))).setCell ⟨gb300, 4, none⟩ (.int .i64 ((rd_T27 l0 x7_1).f4))) = w32 at n0_ n1_ ⊢
       have BK300 := n0_
       have HB := n1_
       clear n0_ n1_
       have n0_ := aA.mk (aN BK300.out)
       have n1_ := aA.mk (aD HB.out)
       clear BK300
       clear HB
       have BK300 := n0_
       have HB := n1_
       clear n0_ n1_
       refine start_ (n := 17) (S := fun w' => w'.cell? ⟨gb300, 0, none⟩ = some (.int .i64 ((rd_T27 l0 x7_1).f0)) ∧ w'.cell? ⟨gb300, 1, none⟩ = some (.int .i64 ((rd_T27 l0 x7_1).f1)) ∧ w'.cell? ⟨gb300, 2, none⟩ = some (.int .i64 ((rd_T27 l0 x7_1).f2)) ∧ w'.cell? ⟨gb300, 3, none⟩ = some (.int .i64 ((rd_T27 l0 x7_1).f3)) ∧ w'.cell? ⟨gb300, 4, none⟩ = some (.int .i64 ((rd_T27 l0 x7_1).f4))) (ds := []) #[false, false, false, false, false, false, false, false, false, false, false, false, false, false, false, false, false] (by kernel_rfl) rfl rfl ⟨(aG BK300.out 0).trans rfl, (aG BK300.out 1).trans rfl, (aG BK300.out 2).trans rfl, (aG BK300.out 3).trans rfl, (aG BK300.out 4).trans rfl⟩ (fun hHeld => ?_); refine with_tabW impl_SetOk.tab4 impl_SetOk.bits4 (fun HT_ HW_ => ?_)
       generalize w32.drew = w33 at BK300 HB hHeld ⊢
       refine take_ (i := 0) (N := some 12) (v := ?_) (a' := ?_) #[true, false, false, false, false, false, false, false, false, false, false, false, false, false, false, false, false] rfl rfl (bP HT_.out HW_.out (by kernel_rfl)) (fun _ _ _ h => h) (Or.inl ⟨by rfl, ?_⟩) hHeld ?_ ?_
       rotate_left
       ·rintro w' ⟨s0, s1, s2, s3, s4⟩
        go_simp
        with_reducible rfl
       rotate_left
       ·simp only [Act.put, lA, lB, lC, aT, aU]
        rfl
       refine one_ (i := 1) (N := some 13) #[true, true, false, false, false, false, false, false, false, false, false, false, false, false, false, false, false] rfl rfl (one_of HT_.out (by kernel_rfl)) (by decide) (fun K hK => ?_)
       refine goes_ Try.func91 (by kernel_rfl) rfl #[.agg #[.int .i64 ((rd_T27 l0 x7_1).f0), .int .i64 ((rd_T27 l0 x7_1).f1), .int .i64 ((rd_T27 l0 x7_1).f2), .int .i64 ((rd_T27 l0 x7_1).f3), .int .i64 ((rd_T27 l0 x7_1).f4)]] (by rfl) rfl rfl (by (try simp only [List.map_toArray, List.map_cons, List.map_nil]); first | done | rfl | (simp only [List.length_drop, List.length_take]; rfl)) ?_
       with_reducible refine (impl_KeyOk.calls k1 ((rd_T27 l0 x7_1).f0) ((rd_T27 l0 x7_1).f1) ((rd_T27 l0 x7_1).f2) ((rd_T27 l0 x7_1).f3) ((rd_T27 l0 x7_1).f4) false _ A5.out).mono ?_
       rintro e w34 ⟨rfl, hb⟩
       refine ⟨_, rfl, ?_⟩
       have n0_ := aA.mk (aY (g := gb300) (o := .cells #[.int .i64 ((rd_T27 l0 x7_1).f0), .int .i64 ((rd_T27 l0 x7_1).f1), .int .i64 ((rd_T27 l0 x7_1).f2), .int .i64 ((rd_T27 l0 x7_1).f3), .int .i64 ((rd_T27 l0 x7_1).f4)] 27 (0, 0)) (by (with_reducible repeat (first | refine aK ?_ _ | refine aN ?_ | refine aM ?_ _)); exact BK300.out) hb)
       have n1_ := aA.mk (aV (by repeat (first | (with_reducible first | exact HB.out | apply aE | apply aC | apply aD | refine aJ ?_ GE300.out) | exact HB.out)) hb)
       clear BK300
       clear HB
       have BK300 := n0_
       have HB := n1_
       clear n0_ n1_
       (try clear hb)
       (try clear hb2)
       (try clear hk)
       (try clear hi)
       refine hK.out _ _ ⟨(aG BK300.out 0).trans rfl, (aG BK300.out 1).trans rfl, (aG BK300.out 2).trans rfl, (aG BK300.out 3).trans rfl, (aG BK300.out 4).trans rfl⟩ (fun hHeld => ?_)
       clear hK K
       refine norm_ (a' := ?_) ?_ ?_
       rotate_left
       ·show Act.put _ (some 13) _ = _
        simp only [Act.put, lA, lB, lC, aT, aU]
        rfl
       refine aX (i := 2) (N := some 14) (v := ?_) (a' := ?_) #[true, true, true, false, false, false, false, false, false, false, false, false, false, false, false, false, false] rfl rfl (aW HT_.out (by kernel_rfl)) (fun _ _ _ h => h) (Or.inl ⟨by rfl, ?_⟩) ?_ ?_
       rotate_left
       ·intro w'
        go_simp
        with_reducible rfl
       rotate_left
       ·simp only [Act.put, lA, lB, lC, aT, aU]
        rfl
       refine aX (i := 3) (N := some 15) (v := ?_) (a' := ?_) #[true, true, true, true, false, false, false, false, false, false, false, false, false, false, false, false, false] rfl rfl (aW HT_.out (by kernel_rfl)) (fun _ _ _ h => h) (Or.inl ⟨by rfl, ?_⟩) ?_ ?_
       rotate_left
       ·intro w'
        go_simp
        with_reducible rfl
       rotate_left
       ·simp only [Act.put, lA, lB, lC, aT, aU]
        rfl
       refine aX (i := 4) (N := some 16) (v := undef) (a' := ?_) #[true, true, true, true, true, false, false, false, false, false, false, false, false, false, false, false, false] rfl rfl (aW HT_.out (by kernel_rfl)) (fun _ _ _ h => h) (Or.inr ⟨by rfl, rfl⟩) ?_ ?_
       rotate_left
       ·simp only [Act.put, lA, lB, lC, aT, aU]
        rfl
       refine aX (i := 5) (N := some 17) (v := undef) (a' := ?_) #[true, true, true, true, true, true, false, false, false, false, false, false, false, false, false, false, false] rfl rfl (aW HT_.out (by kernel_rfl)) (fun _ _ _ h => h) (Or.inr ⟨by rfl, rfl⟩) ?_ ?_
       rotate_left
       ·simp only [Act.put, lA, lB, lC, aT, aU]
        rfl
       refine aX (i := 6) (N := some 18) (v := undef) (a' := ?_) #[true, true, true, true, true, true, true, false, false, false, false, false, false, false, false, false, false] rfl rfl (aW HT_.out (by kernel_rfl)) (fun _ _ _ h => h) (Or.inr ⟨by rfl, rfl⟩) ?_ ?_
       rotate_left
       ·simp only [Act.put, lA, lB, lC, aT, aU]
        rfl
       refine aX (i := 7) (N := some 19) (v := undef) (a' := ?_) #[true, true, true, true, true, true, true, true, false, false, false, false, false, false, false, false, false] rfl rfl (aW HT_.out (by kernel_rfl)) (fun _ _ _ h => h) (Or.inr ⟨by rfl, rfl⟩) ?_ ?_
       rotate_left
       ·simp only [Act.put, lA, lB, lC, aT, aU]
        rfl
       refine aX (i := 8) (N := some 20) (v := undef) (a' := ?_) #[true, true, true, true, true, true, true, true, true, false, false, false, false, false, false, false, false] rfl rfl (aW HT_.out (by kernel_rfl)) (fun _ _ _ h => h) (Or.inr ⟨by rfl, rfl⟩) ?_ ?_
       rotate_left
       ·simp only [Act.put, lA, lB, lC, aT, aU]
        rfl
       refine aX (i := 9) (N := some 21) (v := undef) (a' := ?_) #[true, true, true, true, true, true, true, true, true, true, false, false, false, false, false, false, false] rfl rfl (aW HT_.out (by kernel_rfl)) (fun _ _ _ h => h) (Or.inr ⟨by rfl, rfl⟩) ?_ ?_
       rotate_left
       ·simp only [Act.put, lA, lB, lC, aT, aU]
        rfl
       refine aX (i := 10) (N := some 22) (v := undef) (a' := ?_) #[true, true, true, true, true, true, true, true, true, true, true, false, false, false, false, false, false] rfl rfl (aW HT_.out (by kernel_rfl)) (fun _ _ _ h => h) (Or.inr ⟨by rfl, rfl⟩) ?_ ?_
       rotate_left
       ·simp only [Act.put, lA, lB, lC, aT, aU]
        rfl
       refine aX (i := 11) (N := some 23) (v := undef) (a' := ?_) #[true, true, true, true, true, true, true, true, true, true, true, true, false, false, false, false, false] rfl rfl (aW HT_.out (by kernel_rfl)) (fun _ _ _ h => h) (Or.inr ⟨by rfl, rfl⟩) ?_ ?_
       rotate_left
       ·simp only [Act.put, lA, lB, lC, aT, aU]
        rfl
       refine aX (i := 12) (N := some 24) (v := undef) (a' := ?_) #[true, true, true, true, true, true, true, true, true, true, true, true, true, false, false, false, false] rfl rfl (aW HT_.out (by kernel_rfl)) (fun _ _ _ h => h) (Or.inr ⟨by rfl, rfl⟩) ?_ ?_
       rotate_left
       ·simp only [Act.put, lA, lB, lC, aT, aU]
        rfl
       refine aX (i := 13) (N := some 25) (v := undef) (a' := ?_) #[true, true, true, true, true, true, true, true, true, true, true, true, true, true, false, false, false] rfl rfl (aW HT_.out (by kernel_rfl)) (fun _ _ _ h => h) (Or.inr ⟨by rfl, rfl⟩) ?_ ?_
       rotate_left
       ·simp only [Act.put, lA, lB, lC, aT, aU]
        rfl
       refine aX (i := 14) (N := some 26) (v := undef) (a' := ?_) #[true, true, true, true, true, true, true, true, true, true, true, true, true, true, true, false, false] rfl rfl (aW HT_.out (by kernel_rfl)) (fun _ _ _ h => h) (Or.inr ⟨by rfl, rfl⟩) ?_ ?_
       rotate_left
       ·simp only [Act.put, lA, lB, lC, aT, aU]
        rfl
       refine aX (i := 15) (N := some 27) (v := undef) (a' := ?_) #[true, true, true, true, true, true, true, true, true, true, true, true, true, true, true, true, false] rfl rfl (aW HT_.out (by kernel_rfl)) (fun _ _ _ h => h) (Or.inr ⟨by rfl, rfl⟩) ?_ ?_
       rotate_left
       ·simp only [Act.put, lA, lB, lC, aT, aU]
        rfl
       refine aX (i := 16) (N := some 28) (v := ?_) (a' := ?_) #[true, true, true, true, true, true, true, true, true, true, true, true, true, true, true, true, true] rfl rfl (aW HT_.out (by kernel_rfl)) (fun _ _ _ h => h) (Or.inl ⟨by rfl, ?_⟩) ?_ ?_
       rotate_left
       ·intro w'
        go_simp
        with_reducible rfl
       rotate_left
       ·simp only [Act.put, lA, lB, lC, aT, aU]
        rfl
       refine done_ (done_of HT_.out (by kernel_rfl)) ?_
       try go_wp2
       go_ret
       exact ⟨by first | rfl | (simp [errW_none, errW_some] <;> rfl) | (simp [*, errW_none, errW_some] <;> rfl), by repeat (first | (with_reducible first | exact HB.out | apply aE | apply aC | apply aD | refine aJ ?_ GE300.out) | exact HB.out)⟩
     ·rw [if_neg c4] at H
      exact absurd H (by simp)
    ·rw [if_neg c3] at H
     exact absurd H (by simp)
   ·rw [if_neg c2] at H
    have c2b0 : decide (x7_1 < (l0.length : Int)) = false := decide_eq_false c2
    clear c2
    obtain rfl := Option.some.inj H
    go_wp2
    go_ret
    exact ⟨by first | rfl | (simp [errW_none, errW_some] <;> rfl) | (simp [*, errW_none, errW_some] <;> rfl), by repeat (first | (with_reducible first | exact HB.out | apply aE | apply aC | apply aD) | exact HB.out)⟩
end Go.Proofs.Ythpfihklkcnckaa.PFnExactTreeOk

namespace Go.Proofs.Ythpfihklkcnckaa.PFnExactTreeOk
open Go.RowKit Go.Proofs.YthpfihklkcnckaaW.PrintWords Go.Proofs.YthpfihklkcnckaaW.PrintLast Go.Proofs.YthpfihklkcnckaaW.PrintMore
attribute [local go_sem] max2_int min2_int max_two min_two max_three min_three max_four min_four   -- for this text's walks alone
set_option linter.unusedVariables false
set_option linter.unusedSimpArgs false
def impl_NodeOk.l0 : Nat → Int → List (List (S27)) → Int → Int → List (List (S27)) → Option (Bool)
 | 0, _, _, _, _, _ => none
 | k + 1, x3, x7, x8, x9, x305000 => if x9 < x8 then (if 0 ≤ x9 then (if x9 < (x7.length : Int) then ((impl_SetOk.f k (rd_L2 x7 x9)).bind fun t306 => (if t306 = true then (if ((rd_L2 x7 x9).length : Int) = 0 then (some false) else (impl_NodeOk.l0 k (wrap64 (x3 + ((rd_L2 x7 x9).length : Int))) x7 x8 (wrap64 (x9 + 1)) x305000)) else (some false))) else (none)) else (none)) else (if (x305000.length : Int) ≤ 3 then (some (decide (x3 ≤ 8))) else (some false))
def impl_NodeOk.f (k : Nat) (l0_0 : List (List (S27))) : Option (Bool) := impl_NodeOk.l0 k 0 l0_0 (l0_0.length : Int) 0 l0_0
set_option maxHeartbeats 8000000 in
set_option maxRecDepth 100000 in
theorem impl_NodeOk.calls (k : Nat) (A0_0 : Option Addr) (c0_0 : Nat) (l0_0 : List (List (S27))) (r : Bool) (w : World) (hr0_0 : Kd.C (Kd.slice 27 k27) w A0_0 l0_0.length l0_0) (hc0_0 : l0_0.length ≤ c0_0) (h : impl_NodeOk.f k l0_0 = some r) :
  Calls Try.prog 29 #[.agg #[.slice A0_0 l0_0.length c0_0]] w fun e w' => e = .returned (.bool r) ∧ Below w.heap.size w w' := by
 have hu32 := Try.underlying32
 have HR0_0 := aA.mk hr0_0
 have HC0_0 := aA.mk hc0_0
 clear hr0_0 hc0_0
 have HB := aA.mk (Below.refl w.heap.size w)
 have H : (impl_NodeOk.l0 k 0 l0_0 (l0_0.length : Int) 0 l0_0) = some r := h
 clear h
 have H' := aA.mk H
 clear H
 go_enter Try.func29, Try.ntmps29
 go_wp2_with (first | ((with_reducible refine bF (N := 1) rfl ?_); (try (refine gate_guard (by rfl) ?_; dsimp only)); refine bH ?hg (N := 1) ?hd (cs := #[.slice A0_0 l0_0.length c0_0]) (t := 32) ?hr ?_; (case hd => rfl); (case hg => rfl); (case hr => first | (go_simp; done) | (go_simp; rfl)); intro gb304 hg w2 hbox hb; have n0_ := aA.mk (aV (by repeat (first | (with_reducible first | exact HB.out | apply aE | apply aC | apply aD) | exact HB.out)) hb); have n1_ := aA.mk (hbox); have n2_ := aA.mk ((by rw [hg]; exact (aQ (by repeat (first | (with_reducible first | exact HB.out | apply aE | apply aC | apply aD) | exact HB.out))) : w.heap.size ≤ gb304)); have n3_ := aA.mk ((by rw [hg]; exact (aQ (by repeat (first | (with_reducible first | exact HB.out | apply aE | apply aC | apply aD) | exact HB.out))) : w.heap.size ≤ gb304)); clear HB; have HB := n0_; have BK304 := n1_; have GW304 := n2_; have GE304 := n3_; clear n0_ n1_ n2_ n3_; clear hb hbox hg; have hcz3_0 : w2.cell? ⟨gb304, 0, none⟩ = some (.slice A0_0 l0_0.length c0_0) := (aG BK304.out 0).trans rfl; have hfz3_0 := aH BK304.out 0))
 go_loopg [3, 9] k (fun kq v3 v9 w' => ∃ (x3_1 : Int) (x9_1 : Int), v3 = .int .i64 x3_1 ∧ v9 = .int .i64 x9_1 ∧ aA (impl_NodeOk.l0 kq x3_1 l0_0 (l0_0.length : Int) x9_1 l0_0 = some r) ∧ aA (kq ≤ k) ∧ aA (w'.heap[gb304]? = some (.cells #[(.slice A0_0 l0_0.length c0_0)] 32 (0, 0))) ∧ aA (Below w.heap.size w w'))
 case atStart => exact ⟨(0), (0), (by first | rfl | (simp; done) | (simp [*]; done)), (by first | rfl | (simp; done) | (simp [*]; done)), H', ⟨Nat.le_refl _⟩, ⟨by (with_reducible repeat (first | refine aK ?_ _ | refine aN ?_ | refine aM ?_ _)); exact BK304.out⟩, ⟨by repeat (first | (with_reducible first | exact HB.out | apply aE | apply aC | apply aD | refine aJ ?_ GE304.out) | exact HB.out)⟩⟩
 case round =>
  clear H'
  try clear c2
  try clear p2
  try clear hcz3_0
  try clear hfz3_0
  obtain ⟨x3_1, x9_1, rfl, rfl, HA, HK1, BK304, HB⟩ := hrel
  cases gk with
  | zero => exact absurd HA.out (by simp [impl_NodeOk.l0])
  | succ k1 =>
   have H := HA.out
   clear HA
   simp only [impl_NodeOk.l0] at H
   by_cases c4 : x9_1 < (l0_0.length : Int)
   ·rw [if_pos c4] at H
    have c4b0 : decide (x9_1 < (l0_0.length : Int)) = true := decide_eq_true c4
    clear c4
    by_cases c5 : 0 ≤ x9_1
    ·rw [if_pos c5] at H
     have c5b0 : decide (0 ≤ x9_1) = true := decide_eq_true c5
     clear c5
     by_cases c6 : x9_1 < (l0_0.length : Int)
     ·rw [if_pos c6] at H
      have c6b0 : decide (x9_1 < (l0_0.length : Int)) = true := decide_eq_true c6
      clear c6
      replace H := lF H
      obtain ⟨t306, A70, H⟩ := H
      replace H : (if t306 = true then (if ((rd_L2 l0_0 x9_1).length : Int) = 0 then (some false) else (impl_NodeOk.l0 k1 (wrap64 (x3_1 + ((rd_L2 l0_0 x9_1).length : Int))) l0_0 (l0_0.length : Int) (wrap64 (x9_1 + 1)) l0_0)) else (some false)) = some r := H
      have A7 := aA.mk A70
      clear A70
      by_cases c8 : t306 = true
      ·subst c8
       have H1 : (if ((rd_L2 l0_0 x9_1).length : Int) = 0 then (some false) else (impl_NodeOk.l0 k1 (wrap64 (x3_1 + ((rd_L2 l0_0 x9_1).length : Int))) l0_0 (l0_0.length : Int) (wrap64 (x9_1 + 1)) l0_0)) = some r := by rw [if_pos rfl] at H; exact H
       clear H
       have H := H1
       clear H1
       by_cases c9 : ((rd_L2 l0_0 x9_1).length : Int) = 0
       ·rw [if_pos c9] at H
        have c9b0 : (((rd_L2 l0_0 x9_1).length : Int) == 0) = true := beq_iff_eq.mpr c9
        have c9b1 : (((rd_L2 l0_0 x9_1).length : Int) != 0) = false := bne_eq_false_iff_eq.mpr c9
        clear c9
        obtain rfl := Option.some.inj H
        have p305 : 0 ≤ (x9_1 : Int) := lE (by first | (with_reducible assumption) | assumption)
        have q305 : x9_1 < (l0_0.length : Int) := lE (by first | (with_reducible assumption) | assumption)
        obtain ⟨ad305, A305_0, c305_0, e305, hx305_0, hl305_0, hi305_0⟩ := at_L2 HR0_0.out x9_1 p305 q305
        cases e305
        replace hx305_0 := (HB.out.cell (lD w _ hx305_0)).trans hx305_0
        have HR305_0 := aA.mk hi305_0
        have HC305_0 := aA.mk hl305_0
        clear hi305_0 hl305_0
        replace p305 := eq_true p305
        replace q305 := eq_true q305
        go_wp2_with (first | ((with_reducible refine bC (f := 63) rfl ?_); refine bL (some 14) rfl rfl Try.func63 (by kernel_rfl) rfl #[.slice A305_0 (rd_L2 l0_0 x9_1).length c305_0] rfl (by (try simp only [List.map_toArray, List.map_cons, List.map_nil]); first | done | rfl | (simp only [List.length_drop, List.length_take]; rfl)) ?_; (with_reducible refine (impl_SetOk.calls k1 _ _ (rd_L2 l0_0 x9_1) true _ ?side1 ?side2 A7.out).mono ?_); (case side1 => repeat (first | exact (Kd.bJ HR305_0.out HB.out) | (with_reducible refine Kd.bD ?_ _) | (with_reducible refine Kd.bE ?_ _) | (with_reducible refine Kd.bK ?_))); (case side2 => exact HC305_0.out); rintro e w10 ⟨rfl, hb⟩; refine ⟨_, rfl, ?_⟩; have n0_ := aA.mk (aY (g := gb304) (o := .cells #[.slice (some ad305) l0_0.length c0_0] 32 (0, 0)) (by (with_reducible repeat (first | refine aK ?_ _ | refine aN ?_ | refine aM ?_ _)); exact BK304.out) hb); have n1_ := aA.mk (aV (by repeat (first | (with_reducible first | exact HB.out | apply aE | apply aC | apply aD | refine aJ ?_ GE304.out) | exact HB.out)) hb); clear BK304; clear HB; have BK304 := n0_; have HB := n1_; clear n0_ n1_; (try clear hb)))
        go_ret
        exact ⟨by first | rfl | (simp [errW_none, errW_some] <;> rfl) | (simp [*, errW_none, errW_some] <;> rfl), by repeat (first | (with_reducible first | exact HB.out | apply aE | apply aC | apply aD | refine aJ ?_ GE304.out) | exact HB.out)⟩
       ·rw [if_neg c9] at H
        have c9b0 : (((rd_L2 l0_0 x9_1).length : Int) == 0) = false := beq_eq_false_iff_ne.mpr c9
        have c9b1 : (((rd_L2 l0_0 x9_1).length : Int) != 0) = true := bne_iff_ne.mpr c9
        have c9b2 : ¬ ((rd_L2 l0_0 x9_1) = []) := fun h_ => c9 (by rw [h_]; rfl)
        have H' := aA.mk H
        clear H
        have p305 : 0 ≤ (x9_1 : Int) := lE (by first | (with_reducible assumption) | assumption)
        have q305 : x9_1 < (l0_0.length : Int) := lE (by first | (with_reducible assumption) | assumption)
        obtain ⟨ad305, A305_0, c305_0, e305, hx305_0, hl305_0, hi305_0⟩ := at_L2 HR0_0.out x9_1 p305 q305
        cases e305
        replace hx305_0 := (HB.out.cell (lD w _ hx305_0)).trans hx305_0
        have HR305_0 := aA.mk hi305_0
        have HC305_0 := aA.mk hl305_0
        clear hi305_0 hl305_0
        replace p305 := eq_true p305
        replace q305 := eq_true q305
        go_wp2_with (first | ((with_reducible refine bC (f := 63) rfl ?_); refine bL (some 14) rfl rfl Try.func63 (by kernel_rfl) rfl #[.slice A305_0 (rd_L2 l0_0 x9_1).length c305_0] rfl (by (try simp only [List.map_toArray, List.map_cons, List.map_nil]); first | done | rfl | (simp only [List.length_drop, List.length_take]; rfl)) ?_; (with_reducible refine (impl_SetOk.calls k1 _ _ (rd_L2 l0_0 x9_1) true _ ?side1 ?side2 A7.out).mono ?_); (case side1 => repeat (first | exact (Kd.bJ HR305_0.out HB.out) | (with_reducible refine Kd.bD ?_ _) | (with_reducible refine Kd.bE ?_ _) | (with_reducible refine Kd.bK ?_))); (case side2 => exact HC305_0.out); rintro e w11 ⟨rfl, hb⟩; refine ⟨_, rfl, ?_⟩; have n0_ := aA.mk (aY (g := gb304) (o := .cells #[.slice (some ad305) l0_0.length c0_0] 32 (0, 0)) (by (with_reducible repeat (first | refine aK ?_ _ | refine aN ?_ | refine aM ?_ _)); exact BK304.out) hb); have n1_ := aA.mk (aV (by repeat (first | (with_reducible first | exact HB.out | apply aE | apply aC | apply aD | refine aJ ?_ GE304.out) | exact HB.out)) hb); clear BK304; clear HB; have BK304 := n0_; have HB := n1_; clear n0_ n1_; (try clear hb)))
        go_roundg k1
        case measure => have := HK1.out; omega
        case rel => exact ⟨(wrap64 (x3_1 + ((rd_L2 l0_0 x9_1).length : Int))), (wrap64 (x9_1 + 1)), (by first | rfl | (simp; done) | (simp [*]; done)), (by first | rfl | (simp; done) | (simp [*]; done)), H', ⟨by have := HK1.out; omega⟩, ⟨by (with_reducible repeat (first | refine aK ?_ _ | refine aN ?_ | refine aM ?_ _)); exact BK304.out⟩, ⟨by repeat (first | (with_reducible first | exact HB.out | apply aE | apply aC | apply aD | refine aJ ?_ GE304.out) | exact HB.out)⟩⟩
      ·replace c8 := Bool.eq_false_iff.mpr c8
       subst c8
       have H1 : (some false) = some r := by rw [if_neg (show ¬ (false = true) by decide)] at H; exact H
       clear H
       have H := H1
       clear H1
       obtain rfl := Option.some.inj H
       have p305 : 0 ≤ (x9_1 : Int) := lE (by first | (with_reducible assumption) | assumption)
       have q305 : x9_1 < (l0_0.length : Int) := lE (by first | (with_reducible assumption) | assumption)
       obtain ⟨ad305, A305_0, c305_0, e305, hx305_0, hl305_0, hi305_0⟩ := at_L2 HR0_0.out x9_1 p305 q305
       cases e305
       replace hx305_0 := (HB.out.cell (lD w _ hx305_0)).trans hx305_0
       have HR305_0 := aA.mk hi305_0
       have HC305_0 := aA.mk hl305_0
       clear hi305_0 hl305_0
       replace p305 := eq_true p305
       replace q305 := eq_true q305
       go_wp2_with (first | ((with_reducible refine bC (f := 63) rfl ?_); refine bL (some 14) rfl rfl Try.func63 (by kernel_rfl) rfl #[.slice A305_0 (rd_L2 l0_0 x9_1).length c305_0] rfl (by (try simp only [List.map_toArray, List.map_cons, List.map_nil]); first | done | rfl | (simp only [List.length_drop, List.length_take]; rfl)) ?_; (with_reducible refine (impl_SetOk.calls k1 _ _ (rd_L2 l0_0 x9_1) false _ ?side1 ?side2 A7.out).mono ?_); (case side1 => repeat (first | exact (Kd.bJ HR305_0.out HB.out) | (with_reducible refine Kd.bD ?_ _) | (with_reducible refine Kd.bE ?_ _) | (with_reducible refine Kd.bK ?_))); (case side2 => exact HC305_0.out); rintro e w12 ⟨rfl, hb⟩; refine ⟨_, rfl, ?_⟩; have n0_ := aA.mk (aY (g := gb304) (o := .cells #[.slice (some ad305) l0_0.length c0_0] 32 (0, 0)) (by (with_reducible repeat (first | refine aK ?_ _ | refine aN ?_ | refine aM ?_ _)); exact BK304.out) hb); have n1_ := aA.mk (aV (by repeat (first | (with_reducible first | exact HB.out | apply aE | apply aC | apply aD | refine aJ ?_ GE304.out) | exact HB.out)) hb); clear BK304; clear HB; have BK304 := n0_; have HB := n1_; clear n0_ n1_; (try clear hb)))
       go_ret
       exact ⟨by first | rfl | (simp [errW_none, errW_some] <;> rfl) | (simp [*, errW_none, errW_some] <;> rfl), by repeat (first | (with_reducible first | exact HB.out | apply aE | apply aC | apply aD | refine aJ ?_ GE304.out) | exact HB.out)⟩
     ·rw [if_neg c6] at H
      exact absurd H (by simp)
    ·rw [if_neg c5] at H
     exact absurd H (by simp)
   ·rw [if_neg c4] at H
    have c4b0 : decide (x9_1 < (l0_0.length : Int)) = false := decide_eq_false c4
    clear c4
    by_cases c13 : (l0_0.length : Int) ≤ 3
    ·rw [if_pos c13] at H
     have c13b0 : decide ((l0_0.length : Int) ≤ 3) = true := decide_eq_true c13
     have c13b1 : decide (l0_0.length ≤ 3) = true := decide_eq_true (by omega)
     clear c13
     obtain rfl := Option.some.inj H
     have hcz14_0 : wr.cell? ⟨gb304, 0, none⟩ = some (.slice A0_0 l0_0.length c0_0) := (aG BK304.out 0).trans rfl
     have hfz14_0 := aH BK304.out 0
     go_wp2
     go_ret
     exact ⟨by first | rfl | (simp [errW_none, errW_some] <;> rfl) | (simp [*, errW_none, errW_some] <;> rfl), by repeat (first | (with_reducible first | exact HB.out | apply aE | apply aC | apply aD | refine aJ ?_ GE304.out) | exact HB.out)⟩
    ·rw [if_neg c13] at H
     have c13b0 : decide ((l0_0.length : Int) ≤ 3) = false := decide_eq_false c13
     have c13b1 : decide (l0_0.length ≤ 3) = false := decide_eq_false (by omega)
     clear c13
     obtain rfl := Option.some.inj H
     have hcz15_0 : wr.cell? ⟨gb304, 0, none⟩ = some (.slice A0_0 l0_0.length c0_0) := (aG BK304.out 0).trans rfl
     have hfz15_0 := aH BK304.out 0
     go_wp2
     go_ret
     exact ⟨by first | rfl | (simp [errW_none, errW_some] <;> rfl) | (simp [*, errW_none, errW_some] <;> rfl), by repeat (first | (with_reducible first | exact HB.out | apply aE | apply aC | apply aD | refine aJ ?_ GE304.out) | exact HB.out)⟩
def impl_copyKeys.f (l0 : List (S27)) : Option ((List (S27))) := (some (([] : List (S27)) : List (S27))).bind fun y307 => (if y307.length + l0.length < 3518437208883 then (some (y307 ++ l0)) else (none))
set_option maxHeartbeats 8000000 in
set_option maxRecDepth 100000 in
theorem impl_copyKeys.calls (A0 : Option Addr) (c0 : Nat) (l0 : List (S27)) (r : List (S27)) (w : World) (hr0 : Kd.C k27 w A0 l0.length l0) (hc0 : l0.length ≤ c0) (h : impl_copyKeys.f l0 = some r) :
  Calls Try.prog 58 #[.slice A0 l0.length c0] w fun e w' => ∃ v0_ : Value, e = .returned (v0_) ∧ Kd.R k27 27 w' w.heap.size (fun _ => True) v0_ r ∧ Below w.heap.size w w' := by
 have HR0 := aA.mk hr0
 have HC0 := aA.mk hc0
 clear hr0 hc0
 have HB := aA.mk (Below.refl w.heap.size w)
 have H : ((some (([] : List (S27)) : List (S27))).bind fun y307 => (if y307.length + l0.length < 3518437208883 then (some (y307 ++ l0)) else (none))) = some r := h
 clear h
 obtain ⟨y307, hy307⟩ : ∃ y_ : List (S27), y_ = (([] : List (S27))) := ⟨_, rfl⟩
 replace H : (if y307.length + l0.length < 3518437208883 then (some (y307 ++ l0)) else (none)) = some r := by first | (rw [hy307]; with_reducible exact H) | (have H2_ := (Option.bind_some _ _).symm.trans H; rw [hy307]; with_reducible exact H2_) | (have H2_ := (Option.bind_some _ _).symm.trans H; with_reducible exact H2_) | with_reducible exact H | (rw [hy307]; exact H) | exact H
 have Ny307 := aA.mk hy307
 clear hy307
 by_cases c2 : y307.length + l0.length < 3518437208883
 ·rw [if_pos c2] at H
  have LMc2 := aA.mk c2
  clear c2
  obtain ⟨y310, hy310⟩ : ∃ y_ : List (S27), y_ = (y307 ++ l0) := ⟨_, rfl⟩
  replace H : (some y310) = some r := by first | (rw [hy310]; with_reducible exact H) | (have H2_ := (Option.bind_some _ _).symm.trans H; rw [hy310]; with_reducible exact H2_) | (have H2_ := (Option.bind_some _ _).symm.trans H; with_reducible exact H2_) | with_reducible exact H | (rw [hy310]; exact H) | exact H
  have Ny310 := aA.mk hy310
  clear hy310
  obtain rfl := Option.some.inj H
  go_enter Try.func58, Try.ntmps58
  go_wp2_with (first | ((with_reducible refine bF (N := 3) rfl ?_); refine Kd.R_lit k27 _ 27 ?hg (N := 3) ?hd (xs := ([] : List (S27))) (inner := []) (ok := fun _ => True) (okp := fun _ => True) ?hr ?hp (fun _ hk => hk) trivial (Below.refl _ _) (Nat.le_refl _) (by simp) ?_; (case hd => rfl); (case hg => rfl); (case hr => first | (go_simp; done) | (go_simp; rfl)); (case hp => exact (Reps.none _ _)); intro v308 w3 ho4 hb hg_ hnew_; clear hg_ hnew_; (first | rw [← Ny307.out] at ho4 | (simp only [Int.reduceToNat] at ho4; rw [← Ny307.out] at ho4)); have n0_ := aA.mk (Kd.R_lower ho4 (aQ (by repeat (first | (with_reducible first | exact HB.out | apply aE | apply aC | apply aD) | exact HB.out)))); have n1_ := aA.mk (aV (by repeat (first | (with_reducible first | exact HB.out | apply aE | apply aC | apply aD) | exact HB.out)) hb); clear HB; have HO309 := n0_; have HB := n1_; clear n0_ n1_; clear hb ho4) | ((with_reducible refine gate_builtin (b := .append) (xs := #[.tmp 3, .tmp 4]) rfl ?_); at_builtin; refine Kd.R_append_rows k27 (w0 := w) w.heap.size rfl (.tmp 3) (.tmp 4) 40 27 (.agg #[(.int .i64 0), (.int .i64 0), (.int .i64 0), (.int .i64 0), (.int .i64 0)]) 40 rfl Try.underlying40 info27 rfl (by decide) (by omega) v308 y307 l0 _ _ _ (fun _ => True) (fun _ => False) rfl rfl ?aO ?aR (fun _ _ h => h) (fun _ h => h.elim) ?aF ?aB ?aS ?aL ?_; (case aR => repeat (first | exact (Kd.bJ HR0.out HB.out) | (with_reducible refine Kd.bD ?_ _) | (with_reducible refine Kd.bE ?_ _) | (with_reducible refine Kd.bK ?_))); (case aB => exact (by repeat (first | (with_reducible first | exact HB.out | apply aE | apply aC | apply aD) | exact HB.out))); (case aF => exact (fun _ _ => trivial)); (case aO => exact (by (with_reducible repeat (first | apply Kd.bA | apply Kd.aZ | apply Kd.bB)); exact HO309.out)); (case aS => exact (aQ (by repeat (first | (with_reducible first | exact HB.out | apply aE | apply aC | apply aD) | exact HB.out)))); (case aL => have := LMc2.out; omega); intro v311 w5 ho hb hg hat; rw [← Ny310.out] at ho; have n0_ := aA.mk (hb); have n1_ := aA.mk (ho); clear HB; clear HO309; have HB := n0_; have HO312 := n1_; clear n0_ n1_; clear ho hb hg hat))
  go_ret
  exact ⟨_, by first | rfl | (simp [errW_none, errW_some] <;> rfl) | (simp [*, errW_none, errW_some] <;> rfl), by (with_reducible repeat (first | apply Kd.bA | apply Kd.aZ | apply Kd.bB)); exact HO312.out, by repeat (first | (with_reducible first | exact HB.out | apply aE | apply aC | apply aD) | exact HB.out)⟩
 ·rw [if_neg c2] at H
  exact absurd H (by simp)
def impl_SameSpot.f (a0_0 : Int) (a0_1 : Int) (a0_2 : Int) (a0_3 : Int) (a0_4 : Int) (a1_0 : Int) (a1_1 : Int) (a1_2 : Int) (a1_3 : Int) (a1_4 : Int) : Option (Bool) := if a0_0 = a1_0 then (some (a0_1 == a1_1)) else (some false)
set_option maxHeartbeats 8000000 in
set_option maxRecDepth 100000 in
theorem impl_SameSpot.calls (a0_0 : Int) (a0_1 : Int) (a0_2 : Int) (a0_3 : Int) (a0_4 : Int) (a1_0 : Int) (a1_1 : Int) (a1_2 : Int) (a1_3 : Int) (a1_4 : Int) (r : Bool) (w : World) (h : impl_SameSpot.f a0_0 a0_1 a0_2 a0_3 a0_4 a1_0 a1_1 a1_2 a1_3 a1_4 = some r) :
  Calls Try.prog 95 #[.agg #[.int .i64 a0_0, .int .i64 a0_1, .int .i64 a0_2, .int .i64 a0_3, .int .i64 a0_4], .agg #[.int .i64 a1_0, .int .i64 a1_1, .int .i64 a1_2, .int .i64 a1_3, .int .i64 a1_4]] w fun e w' => e = .returned (.bool r) ∧ Below w.heap.size w w' := by
 have hu27 := Try.underlying27
 have HB := aA.mk (Below.refl w.heap.size w)
 have H : (if a0_0 = a1_0 then (some (a0_1 == a1_1)) else (some false)) = some r := h
 clear h
 by_cases c3 : a0_0 = a1_0
 ·rw [if_pos c3] at H
  have c3b0 : (a0_0 == a1_0) = true := beq_iff_eq.mpr c3
  have c3b1 : (a0_0 != a1_0) = false := bne_eq_false_iff_eq.mpr c3
  clear c3
  obtain rfl := Option.some.inj H
  go_enter Try.func95, Try.ntmps95
  go_wp2_with (first | ((with_reducible refine bF (N := 2) rfl ?_); refine bH ?hg (N := 2) ?hd (cs := #[.int .i64 a0_0, .int .i64 a0_1, .int .i64 a0_2, .int .i64 a0_3, .int .i64 a0_4]) (t := 27) ?hr ?_; (case hd => rfl); (case hg => rfl); (case hr => first | (go_simp; done) | (go_simp; rfl)); intro gb313 hg w4 hbox hb; have n0_ := aA.mk (aV (by repeat (first | (with_reducible first | exact HB.out | apply aE | apply aC | apply aD) | exact HB.out)) hb); have n1_ := aA.mk (hbox); have n2_ := aA.mk ((by rw [hg]; exact (aQ (by repeat (first | (with_reducible first | exact HB.out | apply aE | apply aC | apply aD) | exact HB.out))) : w.heap.size ≤ gb313)); have n3_ := aA.mk ((by rw [hg]; exact (aQ (by repeat (first | (with_reducible first | exact HB.out | apply aE | apply aC | apply aD) | exact HB.out))) : w.heap.size ≤ gb313)); clear HB; have HB := n0_; have BK313 := n1_; have GW313 := n2_; have GE313 := n3_; clear n0_ n1_ n2_ n3_; clear hb hbox hg) | ((with_reducible refine bF (N := 3) rfl ?_); refine bH ?hg (N := 3) ?hd (cs := #[.int .i64 a1_0, .int .i64 a1_1, .int .i64 a1_2, .int .i64 a1_3, .int .i64 a1_4]) (t := 27) ?hr ?_; (case hd => rfl); (case hg => rfl); (case hr => first | (go_simp; done) | (go_simp; rfl)); intro gb314 hg w5 hbox hb; have n0_ := aA.mk (aY (g := gb313) (o := .cells #[.int .i64 a0_0, .int .i64 a0_1, .int .i64 a0_2, .int .i64 a0_3, .int .i64 a0_4] 27 (0, 0)) (by (with_reducible repeat (first | refine aK ?_ _ | refine aN ?_ | refine aM ?_ _)); exact BK313.out) hb); have n1_ := aA.mk (aV (by repeat (first | (with_reducible first | exact HB.out | apply aE | apply aC | apply aD | refine aJ ?_ GE313.out) | exact HB.out)) hb); have n2_ := aA.mk (hbox); have n3_ := aA.mk ((by rw [hg]; exact (aQ (by repeat (first | (with_reducible first | exact HB.out | apply aE | apply aC | apply aD | refine aJ ?_ GE313.out) | exact HB.out))) : w.heap.size ≤ gb314)); have n4_ := aA.mk ((by rw [hg]; exact (aQ (by repeat (first | (with_reducible first | exact HB.out | apply aE | apply aC | apply aD | refine aJ ?_ GE313.out) | exact HB.out))) : w.heap.size ≤ gb314)); have n5_ := aA.mk ((by rw [hg]; exact Nat.ne_of_lt (bN (g := gb313) (o := .cells #[.int .i64 a0_0, .int .i64 a0_1, .int .i64 a0_2, .int .i64 a0_3, .int .i64 a0_4] 27 (0, 0)) (by (with_reducible repeat (first | refine aK ?_ _ | refine aN ?_ | refine aM ?_ _)); exact BK313.out)) : gb313 ≠ gb314)); have n6_ := aA.mk ((by rw [hg]; exact Nat.ne_of_gt (bN (g := gb313) (o := .cells #[.int .i64 a0_0, .int .i64 a0_1, .int .i64 a0_2, .int .i64 a0_3, .int .i64 a0_4] 27 (0, 0)) (by (with_reducible repeat (first | refine aK ?_ _ | refine aN ?_ | refine aM ?_ _)); exact BK313.out)) : gb314 ≠ gb313)); clear BK313; clear HB; have BK313 := n0_; have HB := n1_; have BK314 := n2_; have GW314 := n3_; have GE314 := n4_; have NB313_314 := n5_; have NB314_313 := n6_; clear n0_ n1_ n2_ n3_ n4_ n5_ n6_; clear hb hbox hg; have hnb6 := NB313_314.out; have hnc6 := NB314_313.out; have hcz7_0 : w5.cell? ⟨gb313, 0, none⟩ = some (.int .i64 a0_0) := (aG BK313.out 0).trans rfl; have hcz7_1 : w5.cell? ⟨gb313, 1, none⟩ = some (.int .i64 a0_1) := (aG BK313.out 1).trans rfl; have hcz7_2 : w5.cell? ⟨gb313, 2, none⟩ = some (.int .i64 a0_2) := (aG BK313.out 2).trans rfl; have hcz7_3 : w5.cell? ⟨gb313, 3, none⟩ = some (.int .i64 a0_3) := (aG BK313.out 3).trans rfl; have hcz7_4 : w5.cell? ⟨gb313, 4, none⟩ = some (.int .i64 a0_4) := (aG BK313.out 4).trans rfl; have hfz7_0 := aH BK313.out 0; have hfz7_1 := aH BK313.out 1; have hfz7_2 := aH BK313.out 2; have hfz7_3 := aH BK313.out 3; have hfz7_4 := aH BK313.out 4; have hcz8_0 : w5.cell? ⟨gb314, 0, none⟩ = some (.int .i64 a1_0) := (aG BK314.out 0).trans rfl; have hcz8_1 : w5.cell? ⟨gb314, 1, none⟩ = some (.int .i64 a1_1) := (aG BK314.out 1).trans rfl; have hcz8_2 : w5.cell? ⟨gb314, 2, none⟩ = some (.int .i64 a1_2) := (aG BK314.out 2).trans rfl; have hcz8_3 : w5.cell? ⟨gb314, 3, none⟩ = some (.int .i64 a1_3) := (aG BK314.out 3).trans rfl; have hcz8_4 : w5.cell? ⟨gb314, 4, none⟩ = some (.int .i64 a1_4) := (aG BK314.out 4).trans rfl; have hfz8_0 := aH BK314.out 0; have hfz8_1 := aH BK314.out 1; have hfz8_2 := aH BK314.out 2; have hfz8_3 := aH BK314.out 3; have hfz8_4 := aH BK314.out 4))
  go_ret
  exact ⟨by first | rfl | (simp [errW_none, errW_some] <;> rfl) | (simp [*, errW_none, errW_some] <;> rfl), by repeat (first | (with_reducible first | exact HB.out | apply aE | apply aC | apply aD | refine aJ ?_ GE313.out | refine aJ ?_ GE314.out) | exact HB.out)⟩
 ·rw [if_neg c3] at H
  have c3b0 : (a0_0 == a1_0) = false := beq_eq_false_iff_ne.mpr c3
  have c3b1 : (a0_0 != a1_0) = true := bne_iff_ne.mpr c3
  obtain rfl := Option.some.inj H
  go_enter Try.func95, Try.ntmps95
  go_wp2_with (first | ((with_reducible refine bF (N := 2) rfl ?_); refine bH ?hg (N := 2) ?hd (cs := #[.int .i64 a0_0, .int .i64 a0_1, .int .i64 a0_2, .int .i64 a0_3, .int .i64 a0_4]) (t := 27) ?hr ?_; (case hd => rfl); (case hg => rfl); (case hr => first | (go_simp; done) | (go_simp; rfl)); intro gb313 hg w9 hbox hb; have n0_ := aA.mk (aV (by repeat (first | (with_reducible first | exact HB.out | apply aE | apply aC | apply aD) | exact HB.out)) hb); have n1_ := aA.mk (hbox); have n2_ := aA.mk ((by rw [hg]; exact (aQ (by repeat (first | (with_reducible first | exact HB.out | apply aE | apply aC | apply aD) | exact HB.out))) : w.heap.size ≤ gb313)); have n3_ := aA.mk ((by rw [hg]; exact (aQ (by repeat (first | (with_reducible first | exact HB.out | apply aE | apply aC | apply aD) | exact HB.out))) : w.heap.size ≤ gb313)); clear HB; have HB := n0_; have BK313 := n1_; have GW313 := n2_; have GE313 := n3_; clear n0_ n1_ n2_ n3_; clear hb hbox hg) | ((with_reducible refine bF (N := 3) rfl ?_); refine bH ?hg (N := 3) ?hd (cs := #[.int .i64 a1_0, .int .i64 a1_1, .int .i64 a1_2, .int .i64 a1_3, .int .i64 a1_4]) (t := 27) ?hr ?_; (case hd => rfl); (case hg => rfl); (case hr => first | (go_simp; done) | (go_simp; rfl)); intro gb314 hg w10 hbox hb; have n0_ := aA.mk (aY (g := gb313) (o := .cells #[.int .i64 a0_0, .int .i64 a0_1, .int .i64 a0_2, .int .i64 a0_3, .int .i64 a0_4] 27 (0, 0)) (by (with_reducible repeat (first | refine aK ?_ _ | refine aN ?_ | refine aM ?_ _)); exact BK313.out) hb); have n1_ := aA.mk (aV (by repeat (first | (with_reducible first | exact HB.out | apply aE | apply aC | apply aD | refine aJ ?_ GE313.out) | exact HB.out)) hb); have n2_ := aA.mk (hbox); have n3_ := aA.mk ((by rw [hg]; exact (aQ (by repeat (first | (with_reducible first | exact HB.out | apply aE | apply aC | apply aD | refine aJ ?_ GE313.out) | exact HB.out))) : w.heap.size ≤ gb314)); have n4_ := aA.mk ((by rw [hg]; exact (aQ (by repeat (first | (with_reducible first | exact HB.out | apply aE | apply aC | apply aD | refine aJ ?_ GE313.out) | exact HB.out))) : w.heap.size ≤ gb314)); have n5_ := aA.mk ((by rw [hg]; exact Nat.ne_of_lt (bN (g := gb313) (o := .cells #[.int .i64 a0_0, .int .i64 a0_1, .int .i64 a0_2, .int .i64 a0_3, .int .i64 a0_4] 27 (0, 0)) (by (with_reducible repeat (first | refine aK ?_ _ | refine aN ?_ | refine aM ?_ _)); exact BK313.out)) : gb313 ≠ gb314)); have n6_ := aA.mk ((by rw [hg]; exact Nat.ne_of_gt (bN (g := gb313) (o := .cells #[.int .i64 a0_0, .int .i64 a0_1, .int .i64 a0_2, .int .i64 a0_3, .int .i64 a0_4] 27 (0, 0)) (by (with_reducible repeat (first | refine aK ?_ _ | refine aN ?_ | refine aM ?_ _)); exact BK313.out)) : gb314 ≠ gb313)); clear BK313; clear HB; have BK313 := n0_; have HB := n1_; have BK314 := n2_; have GW314 := n3_; have GE314 := n4_; have NB313_314 := n5_; have NB314_313 := n6_; clear n0_ n1_ n2_ n3_ n4_ n5_ n6_; clear hb hbox hg; have hnb11 := NB313_314.out; have hnc11 := NB314_313.out; have hcz12_0 : w10.cell? ⟨gb313, 0, none⟩ = some (.int .i64 a0_0) := (aG BK313.out 0).trans rfl; have hcz12_1 : w10.cell? ⟨gb313, 1, none⟩ = some (.int .i64 a0_1) := (aG BK313.out 1).trans rfl; have hcz12_2 : w10.cell? ⟨gb313, 2, none⟩ = some (.int .i64 a0_2) := (aG BK313.out 2).trans rfl; have hcz12_3 : w10.cell? ⟨gb313, 3, none⟩ = some (.int .i64 a0_3) := (aG BK313.out 3).trans rfl; have hcz12_4 : w10.cell? ⟨gb313, 4, none⟩ = some (.int .i64 a0_4) := (aG BK313.out 4).trans rfl; have hfz12_0 := aH BK313.out 0; have hfz12_1 := aH BK313.out 1; have hfz12_2 := aH BK313.out 2; have hfz12_3 := aH BK313.out 3; have hfz12_4 := aH BK313.out 4; have hcz13_0 : w10.cell? ⟨gb314, 0, none⟩ = some (.int .i64 a1_0) := (aG BK314.out 0).trans rfl; have hcz13_1 : w10.cell? ⟨gb314, 1, none⟩ = some (.int .i64 a1_1) := (aG BK314.out 1).trans rfl; have hcz13_2 : w10.cell? ⟨gb314, 2, none⟩ = some (.int .i64 a1_2) := (aG BK314.out 2).trans rfl; have hcz13_3 : w10.cell? ⟨gb314, 3, none⟩ = some (.int .i64 a1_3) := (aG BK314.out 3).trans rfl; have hcz13_4 : w10.cell? ⟨gb314, 4, none⟩ = some (.int .i64 a1_4) := (aG BK314.out 4).trans rfl; have hfz13_0 := aH BK314.out 0; have hfz13_1 := aH BK314.out 1; have hfz13_2 := aH BK314.out 2; have hfz13_3 := aH BK314.out 3; have hfz13_4 := aH BK314.out 4))
  go_ret
  exact ⟨by first | rfl | (simp [errW_none, errW_some] <;> rfl) | (simp [*, errW_none, errW_some] <;> rfl), by repeat (first | (with_reducible first | exact HB.out | apply aE | apply aC | apply aD | refine aJ ?_ GE313.out | refine aJ ?_ GE314.out) | exact HB.out)⟩
mutual
def impl_SetPut.l0 : Nat → List (S27) → Bool → List (S27) → Int → Int → Int → Int → Int → Int → Int → Option ((List (S27)))
 | 0, _, _, _, _, _, _, _, _, _, _ => none
 | k + 1, x5, x6, x10, x11, x12, x316000, x316001, x316002, x316003, x316004 => if x12 < x11 then (if 0 ≤ x12 then (if x12 < (x10.length : Int) then (if x6 = true then (impl_SetPut.j1 k x5 x6 x10 x11 x12 false x316000 x316001 x316002 x316003 x316004 ((rd_T27 x10 x12).f0) ((rd_T27 x10 x12).f1) ((rd_T27 x10 x12).f2) ((rd_T27 x10 x12).f3) ((rd_T27 x10 x12).f4)) else ((impl_LessKey.f ((rd_T27 x10 x12).f0) ((rd_T27 x10 x12).f1) ((rd_T27 x10 x12).f2) ((rd_T27 x10 x12).f3) ((rd_T27 x10 x12).f4) x316000 x316001 x316002 x316003 x316004).bind fun t324 => (impl_SetPut.j1 k x5 x6 x10 x11 x12 (!t324) x316000 x316001 x316002 x316003 x316004 ((rd_T27 x10 x12).f0) ((rd_T27 x10 x12).f1) ((rd_T27 x10 x12).f2) ((rd_T27 x10 x12).f3) ((rd_T27 x10 x12).f4)))) else (none)) else (none)) else (if x6 = true then (some x5) else (if x5.length < 3518437208883 then (some (x5 ++ [(⟨x316000, x316001, x316002, x316003, x316004⟩ : S27)])) else (none)))
def impl_SetPut.j1 : Nat → List (S27) → Bool → List (S27) → Int → Int → Bool → Int → Int → Int → Int → Int → Int → Int → Int → Int → Int → Option ((List (S27)))
 | 0, _, _, _, _, _, _, _, _, _, _, _, _, _, _, _, _ => none
 | k + 1, x5, x6, x10, x11, x12, x23, x316000, x316001, x316002, x316003, x316004, x324000, x324001, x324002, x324003, x324004 => if x23 = true then (if x5.length < 3518437208883 then ((some (x5 ++ [(⟨x316000, x316001, x316002, x316003, x316004⟩ : S27)] : List (S27))).bind fun y325 => ((impl_SameSpot.f x324000 x324001 x324002 x324003 x324004 x316000 x316001 x316002 x316003 x316004).bind fun t328 => (if t328 = true then (impl_SetPut.l0 k y325 true x10 x11 (wrap64 (x12 + 1)) x316000 x316001 x316002 x316003 x316004) else (if y325.length < 3518437208883 then (impl_SetPut.l0 k (y325 ++ [(⟨x324000, x324001, x324002, x324003, x324004⟩ : S27)]) true x10 x11 (wrap64 (x12 + 1)) x316000 x316001 x316002 x316003 x316004) else (none))))) else (none)) else ((impl_SameSpot.f x324000 x324001 x324002 x324003 x324004 x316000 x316001 x316002 x316003 x316004).bind fun t332 => (if t332 = true then (impl_SetPut.l0 k x5 x6 x10 x11 (wrap64 (x12 + 1)) x316000 x316001 x316002 x316003 x316004) else (if x5.length < 3518437208883 then (impl_SetPut.l0 k (x5 ++ [(⟨x324000, x324001, x324002, x324003, x324004⟩ : S27)]) x6 x10 x11 (wrap64 (x12 + 1)) x316000 x316001 x316002 x316003 x316004) else (none))))
end
def impl_SetPut.f (k : Nat) (l0 : List (S27)) (a1_0 : Int) (a1_1 : Int) (a1_2 : Int) (a1_3 : Int) (a1_4 : Int) : Option ((List (S27))) := impl_SetPut.l0 k (([] : List (S27))) false l0 (l0.length : Int) 0 a1_0 a1_1 a1_2 a1_3 a1_4
set_option maxHeartbeats 8000000 in
set_option maxRecDepth 100000 in
theorem impl_SetPut.calls (k : Nat) (A0 : Option Addr) (c0 : Nat) (l0 : List (S27)) (a1_0 : Int) (a1_1 : Int) (a1_2 : Int) (a1_3 : Int) (a1_4 : Int) (r : List (S27)) (w : World) (hr0 : Kd.C k27 w A0 l0.length l0) (hc0 : l0.length ≤ c0) (h : impl_SetPut.f k l0 a1_0 a1_1 a1_2 a1_3 a1_4 = some r) :
  Calls Try.prog 71 #[.slice A0 l0.length c0, .agg #[.int .i64 a1_0, .int .i64 a1_1, .int .i64 a1_2, .int .i64 a1_3, .int .i64 a1_4]] w fun e w' => ∃ v0_ : Value, e = .returned (v0_) ∧ Kd.R k27 27 w' w.heap.size (fun _ => True) v0_ r ∧ Below w.heap.size w w' := by
 have hu27 := Try.underlying27
 have HR0 := aA.mk hr0
 have HC0 := aA.mk hc0
 clear hr0 hc0
 have HB := aA.mk (Below.refl w.heap.size w)
 have H : (impl_SetPut.l0 k (([] : List (S27))) false l0 (l0.length : Int) 0 a1_0 a1_1 a1_2 a1_3 a1_4) = some r := h
 clear h
 obtain ⟨y316, hy316⟩ : ∃ y_ : List (S27), y_ = (([] : List (S27))) := ⟨_, rfl⟩
 replace H : (impl_SetPut.l0 k y316 false l0 (l0.length : Int) 0 a1_0 a1_1 a1_2 a1_3 a1_4) = some r := by first | (rw [hy316]; with_reducible exact H) | (have H2_ := (Option.bind_some _ _).symm.trans H; rw [hy316]; with_reducible exact H2_) | (have H2_ := (Option.bind_some _ _).symm.trans H; with_reducible exact H2_) | with_reducible exact H | (rw [hy316]; exact H) | exact H
 have Ny316 := aA.mk hy316
 clear hy316
 have H' := aA.mk H
 clear H
 go_enter Try.func71, Try.ntmps71
 go_wp2_with (first | ((with_reducible refine bF (N := 3) rfl ?_); refine bH ?hg (N := 3) ?hd (cs := #[.int .i64 a1_0, .int .i64 a1_1, .int .i64 a1_2, .int .i64 a1_3, .int .i64 a1_4]) (t := 27) ?hr ?_; (case hd => rfl); (case hg => rfl); (case hr => first | (go_simp; done) | (go_simp; rfl)); intro gb315 hg w3 hbox hb; have n0_ := aA.mk (aV (by repeat (first | (with_reducible first | exact HB.out | apply aE | apply aC | apply aD) | exact HB.out)) hb); have n1_ := aA.mk (hbox); have n2_ := aA.mk ((by rw [hg]; exact (aQ (by repeat (first | (with_reducible first | exact HB.out | apply aE | apply aC | apply aD) | exact HB.out))) : w.heap.size ≤ gb315)); have n3_ := aA.mk ((by rw [hg]; exact (aQ (by repeat (first | (with_reducible first | exact HB.out | apply aE | apply aC | apply aD) | exact HB.out))) : w.heap.size ≤ gb315)); clear HB; have HB := n0_; have BK315 := n1_; have GW315 := n2_; have GE315 := n3_; clear n0_ n1_ n2_ n3_; clear hb hbox hg) | ((with_reducible refine bF (N := 9) rfl ?_); refine Kd.R_lit k27 _ 27 ?hg (N := 9) ?hd (xs := ([] : List (S27))) (inner := []) (ok := fun _ => True) (okp := fun _ => True) ?hr ?hp (fun _ hk => hk) trivial (Below.refl _ _) (Nat.le_refl _) (by simp) ?_; (case hd => rfl); (case hg => rfl); (case hr => first | (go_simp; done) | (go_simp; rfl)); (case hp => exact (Reps.none _ _)); intro v317 w4 ho5 hb hg_ hnew_; clear hg_ hnew_; (first | rw [← Ny316.out] at ho5 | (simp only [Int.reduceToNat] at ho5; rw [← Ny316.out] at ho5)); have n0_ := aA.mk (Kd.R_lower (Kd.R_newB ho5 (g := gb315) (o := .cells #[.int .i64 a1_0, .int .i64 a1_1, .int .i64 a1_2, .int .i64 a1_3, .int .i64 a1_4] 27 (0, 0)) (by (with_reducible repeat (first | refine aK ?_ _ | refine aN ?_ | refine aM ?_ _)); exact BK315.out)) (aQ (by repeat (first | (with_reducible first | exact HB.out | apply aE | apply aC | apply aD | refine aJ ?_ GE315.out) | exact HB.out)))); have n1_ := aA.mk (aY (g := gb315) (o := .cells #[.int .i64 a1_0, .int .i64 a1_1, .int .i64 a1_2, .int .i64 a1_3, .int .i64 a1_4] 27 (0, 0)) (by (with_reducible repeat (first | refine aK ?_ _ | refine aN ?_ | refine aM ?_ _)); exact BK315.out) hb); have n2_ := aA.mk (aV (by repeat (first | (with_reducible first | exact HB.out | apply aE | apply aC | apply aD | refine aJ ?_ GE315.out) | exact HB.out)) hb); clear BK315; clear HB; have HO318 := n0_; have BK315 := n1_; have HB := n2_; clear n0_ n1_ n2_; clear hb ho5))
 go_loopg [5, 6, 12] k (fun kq v5 v6 v12 w' => ∃ (x5_1 : List (S27)) (x6_1 : Bool) (x12_1 : Int), v6 = .bool x6_1 ∧ v12 = .int .i64 x12_1 ∧ aA (impl_SetPut.l0 kq x5_1 x6_1 l0 (l0.length : Int) x12_1 a1_0 a1_1 a1_2 a1_3 a1_4 = some r) ∧ aA (kq ≤ k) ∧ aA (Kd.R k27 27 w' w.heap.size (fun k_ => k_ ≠ gb315) v5 x5_1) ∧ aA (w'.heap[gb315]? = some (.cells #[.int .i64 a1_0, .int .i64 a1_1, .int .i64 a1_2, .int .i64 a1_3, .int .i64 a1_4] 27 (0, 0))) ∧ aA (Below w.heap.size w w'))
 case atStart => exact ⟨(y316), (false), (0), (by first | rfl | (simp; done) | (simp [*]; done)), (by first | rfl | (simp; done) | (simp [*]; done)), H', ⟨Nat.le_refl _⟩, ⟨by (with_reducible repeat (first | apply Kd.bA | apply Kd.aZ | apply Kd.bB)); exact Kd.bR HO318.out (fun _ hk => hk.2)⟩, ⟨by (with_reducible repeat (first | refine aK ?_ _ | refine aN ?_ | refine aM ?_ _)); exact BK315.out⟩, ⟨by repeat (first | (with_reducible first | exact HB.out | apply aE | apply aC | apply aD | refine aJ ?_ GE315.out) | exact HB.out)⟩⟩
 case round =>
  clear H'
  try clear p2
  obtain ⟨x5_1, x6_1, x12_1, rfl, rfl, HA, HK1, HO_5, BK315, HB⟩ := hrel
  cases gk with
  | zero => exact absurd HA.out (by simp [impl_SetPut.l0])
  | succ k1 =>
   have H := HA.out
   clear HA
   simp only [impl_SetPut.l0] at H
   by_cases c6 : x12_1 < (l0.length : Int)
   ·rw [if_pos c6] at H
    have c6b0 : decide (x12_1 < (l0.length : Int)) = true := decide_eq_true c6
    clear c6
    by_cases c7 : 0 ≤ x12_1
    ·rw [if_pos c7] at H
     have c7b0 : decide (0 ≤ x12_1) = true := decide_eq_true c7
     clear c7
     by_cases c8 : x12_1 < (l0.length : Int)
     ·rw [if_pos c8] at H
      have c8b0 : decide (x12_1 < (l0.length : Int)) = true := decide_eq_true c8
      clear c8
      have HC9 := aA.mk H
      clear H
      have p322 : 0 ≤ (x12_1 : Int) := lE (by first | (with_reducible assumption) | assumption)
      have q322 : x12_1 < (l0.length : Int) := lE (by first | (with_reducible assumption) | assumption)
      obtain ⟨ad322, e322, hx322_0, hx322_1, hx322_2, hx322_3, hx322_4⟩ := at_T27 HR0.out x12_1 p322 q322
      cases e322
      replace hx322_0 := (HB.out.cell (lD w _ hx322_0)).trans hx322_0
      replace hx322_1 := (HB.out.cell (lD w _ hx322_1)).trans hx322_1
      replace hx322_2 := (HB.out.cell (lD w _ hx322_2)).trans hx322_2
      replace hx322_3 := (HB.out.cell (lD w _ hx322_3)).trans hx322_3
      replace hx322_4 := (HB.out.cell (lD w _ hx322_4)).trans hx322_4
      replace p322 := eq_true p322
      replace q322 := eq_true q322
      go_upto_region 6 with (first | ((with_reducible refine bF (N := 8) rfl ?_); refine bH ?hg (N := 8) ?hd (cs := #[.int .i64 0, .int .i64 0, .int .i64 0, .int .i64 0, .int .i64 0]) (t := 27) ?hr ?_; (case hd => rfl); (case hg => rfl); (case hr => first | (go_simp; done) | (go_simp; rfl)); intro gb323 hg w10 hbox hb; have n0_ := aA.mk (Kd.bQ (Kd.R_elderB (by (with_reducible repeat (first | apply Kd.bA | apply Kd.aZ | apply Kd.bB)); exact HO_5.out) gb323 (Nat.le_of_eq hg.symm)) hb); have n1_ := aA.mk (aY (g := gb315) (o := .cells #[.int .i64 a1_0, .int .i64 a1_1, .int .i64 a1_2, .int .i64 a1_3, .int .i64 a1_4] 27 (0, 0)) (by (with_reducible repeat (first | refine aK ?_ _ | refine aN ?_ | refine aM ?_ _)); exact BK315.out) hb); have n2_ := aA.mk (aV (by repeat (first | (with_reducible first | exact HB.out | apply aE | apply aC | apply aD | refine aJ ?_ GE315.out) | exact HB.out)) hb); have n3_ := aA.mk (hbox); have n4_ := aA.mk ((by rw [hg]; exact (aQ (by repeat (first | (with_reducible first | exact HB.out | apply aE | apply aC | apply aD | refine aJ ?_ GE315.out) | exact HB.out))) : w.heap.size ≤ gb323)); have n5_ := aA.mk ((by rw [hg]; exact (aQ (by repeat (first | (with_reducible first | exact HB.out | apply aE | apply aC | apply aD | refine aJ ?_ GE315.out) | exact HB.out))) : w.heap.size ≤ gb323)); have n6_ := aA.mk ((by rw [hg]; exact Nat.ne_of_lt (bN (g := gb315) (o := .cells #[.int .i64 a1_0, .int .i64 a1_1, .int .i64 a1_2, .int .i64 a1_3, .int .i64 a1_4] 27 (0, 0)) (by (with_reducible repeat (first | refine aK ?_ _ | refine aN ?_ | refine aM ?_ _)); exact BK315.out)) : gb315 ≠ gb323)); have n7_ := aA.mk ((by rw [hg]; exact Nat.ne_of_gt (bN (g := gb315) (o := .cells #[.int .i64 a1_0, .int .i64 a1_1, .int .i64 a1_2, .int .i64 a1_3, .int .i64 a1_4] 27 (0, 0)) (by (with_reducible repeat (first | refine aK ?_ _ | refine aN ?_ | refine aM ?_ _)); exact BK315.out)) : gb323 ≠ gb315)); clear HO_5; clear BK315; clear HB; have HO_5 := n0_; have BK315 := n1_; have HB := n2_; have BK323 := n3_; have GW323 := n4_; have GE323 := n5_; have NB315_323 := n6_; have NB323_315 := n7_; clear n0_ n1_ n2_ n3_ n4_ n5_ n6_ n7_; clear hb hbox hg; have hnb11 := NB323_315.out; have hnc11 := NB315_323.out; have hcz12_0 : w10.cell? ⟨gb323, 0, none⟩ = some (.int .i64 0) := (aG BK323.out 0).trans rfl; have hcz12_1 : w10.cell? ⟨gb323, 1, none⟩ = some (.int .i64 0) := (aG BK323.out 1).trans rfl; have hcz12_2 : w10.cell? ⟨gb323, 2, none⟩ = some (.int .i64 0) := (aG BK323.out 2).trans rfl; have hcz12_3 : w10.cell? ⟨gb323, 3, none⟩ = some (.int .i64 0) := (aG BK323.out 3).trans rfl; have hcz12_4 : w10.cell? ⟨gb323, 4, none⟩ = some (.int .i64 0) := (aG BK323.out 4).trans rfl; have hfz12_0 := aH BK323.out 0; have hfz12_1 := aH BK323.out 1; have hfz12_2 := aH BK323.out 2; have hfz12_3 := aH BK323.out 3; have hfz12_4 := aH BK323.out 4))
      (try simp only [Act.put, lA, lB, lC])
      go_cut [23] (fun v23 wc => ∃ (kq : Nat) (x23_8 : Bool), v23 = .bool x23_8 ∧ aA (impl_SetPut.j1 kq x5_1 x6_1 l0 (l0.length : Int) x12_1 x23_8 a1_0 a1_1 a1_2 a1_3 a1_4 ((rd_T27 l0 x12_1).f0) ((rd_T27 l0 x12_1).f1) ((rd_T27 l0 x12_1).f2) ((rd_T27 l0 x12_1).f3) ((rd_T27 l0 x12_1).f4) = some r) ∧ aA (kq ≤ k1) ∧ aA (Kd.R k27 27 wc w.heap.size (fun k_ => k_ ≠ gb315 ∧ k_ ≠ gb323) u5 x5_1) ∧ aA (wc.heap[gb315]? = some (.cells #[.int .i64 a1_0, .int .i64 a1_1, .int .i64 a1_2, .int .i64 a1_3, .int .i64 a1_4] 27 (0, 0))) ∧ aA (wc.heap[gb323]? = some (.cells #[.int .i64 ((rd_T27 l0 x12_1).f0), .int .i64 ((rd_T27 l0 x12_1).f1), .int .i64 ((rd_T27 l0 x12_1).f2), .int .i64 ((rd_T27 l0 x12_1).f3), .int .i64 ((rd_T27 l0 x12_1).f4)] 27 (0, 0))) ∧ aA (Below w.heap.size w wc))
      case first =>
       have H := HC9.out
       clear HC9
       by_cases c13 : x6_1 = true
       ·subst c13
        have H1 : (impl_SetPut.j1 k1 x5_1 true l0 (l0.length : Int) x12_1 false a1_0 a1_1 a1_2 a1_3 a1_4 ((rd_T27 l0 x12_1).f0) ((rd_T27 l0 x12_1).f1) ((rd_T27 l0 x12_1).f2) ((rd_T27 l0 x12_1).f3) ((rd_T27 l0 x12_1).f4)) = some r := by rw [if_pos rfl] at H; exact H
        clear H
        have H := H1
        clear H1
        have H' := aA.mk H
        clear H
        go_wp2
        go_meet
        case rel => exact ⟨_, (false), (by first | rfl | (simp; done) | (simp [*]; done)), H', ⟨by have := HK1.out; first | omega | exact Nat.le_refl _⟩, ⟨by (with_reducible repeat (first | apply Kd.bA | apply Kd.aZ | apply Kd.bB)); exact Kd.bR (Kd.R_far (p := ⟨gb323, 4, none⟩) (Kd.R_far (p := ⟨gb323, 3, none⟩) (Kd.R_far (p := ⟨gb323, 2, none⟩) (Kd.R_far (p := ⟨gb323, 1, none⟩) (Kd.R_far (p := ⟨gb323, 0, none⟩) (Kd.bR HO_5.out (fun k_ hk => (⟨hk, hk.2⟩ : _ ∧ k_ ≠ gb323))) (fun _ hk => hk.2) (.int .i64 ((rd_T27 l0 x12_1).f0))) (fun _ hk => hk.2) (.int .i64 ((rd_T27 l0 x12_1).f1))) (fun _ hk => hk.2) (.int .i64 ((rd_T27 l0 x12_1).f2))) (fun _ hk => hk.2) (.int .i64 ((rd_T27 l0 x12_1).f3))) (fun _ hk => hk.2) (.int .i64 ((rd_T27 l0 x12_1).f4))) (fun _ hk => ⟨hk.1.1, hk.1.2⟩)⟩, ⟨by (with_reducible repeat (first | refine aK ?_ _ | refine aN ?_ | refine aM ?_ _)); refine blk_far ?_ NB315_323.out _; (with_reducible repeat (first | refine aK ?_ _ | refine aN ?_ | refine aM ?_ _)); refine blk_far ?_ NB315_323.out _; (with_reducible repeat (first | refine aK ?_ _ | refine aN ?_ | refine aM ?_ _)); refine blk_far ?_ NB315_323.out _; (with_reducible repeat (first | refine aK ?_ _ | refine aN ?_ | refine aM ?_ _)); refine blk_far ?_ NB315_323.out _; (with_reducible repeat (first | refine aK ?_ _ | refine aN ?_ | refine aM ?_ _)); refine blk_far ?_ NB315_323.out _; (with_reducible repeat (first | refine aK ?_ _ | refine aN ?_ | refine aM ?_ _)); exact BK315.out⟩, ⟨by (with_reducible repeat (first | refine aK ?_ _ | refine aN ?_ | refine aM ?_ _)); refine bM (cs := #[.int .i64 ((rd_T27 l0 x12_1).f0), .int .i64 ((rd_T27 l0 x12_1).f1), .int .i64 ((rd_T27 l0 x12_1).f2), .int .i64 ((rd_T27 l0 x12_1).f3), .int .i64 0]) ?_ 4 _ rfl; (with_reducible repeat (first | refine aK ?_ _ | refine aN ?_ | refine aM ?_ _)); refine bM (cs := #[.int .i64 ((rd_T27 l0 x12_1).f0), .int .i64 ((rd_T27 l0 x12_1).f1), .int .i64 ((rd_T27 l0 x12_1).f2), .int .i64 0, .int .i64 0]) ?_ 3 _ rfl; (with_reducible repeat (first | refine aK ?_ _ | refine aN ?_ | refine aM ?_ _)); refine bM (cs := #[.int .i64 ((rd_T27 l0 x12_1).f0), .int .i64 ((rd_T27 l0 x12_1).f1), .int .i64 0, .int .i64 0, .int .i64 0]) ?_ 2 _ rfl; (with_reducible repeat (first | refine aK ?_ _ | refine aN ?_ | refine aM ?_ _)); refine bM (cs := #[.int .i64 ((rd_T27 l0 x12_1).f0), .int .i64 0, .int .i64 0, .int .i64 0, .int .i64 0]) ?_ 1 _ rfl; (with_reducible repeat (first | refine aK ?_ _ | refine aN ?_ | refine aM ?_ _)); refine bM (cs := #[.int .i64 0, .int .i64 0, .int .i64 0, .int .i64 0, .int .i64 0]) ?_ 0 _ rfl; (with_reducible repeat (first | refine aK ?_ _ | refine aN ?_ | refine aM ?_ _)); exact BK323.out⟩, ⟨by repeat (first | (with_reducible first | exact HB.out | apply aE | apply aC | apply aD | refine aJ ?_ GE315.out | refine aJ ?_ GE323.out) | exact HB.out)⟩⟩
       ·replace c13 := Bool.eq_false_iff.mpr c13
        subst c13
        have H1 : ((impl_LessKey.f ((rd_T27 l0 x12_1).f0) ((rd_T27 l0 x12_1).f1) ((rd_T27 l0 x12_1).f2) ((rd_T27 l0 x12_1).f3) ((rd_T27 l0 x12_1).f4) a1_0 a1_1 a1_2 a1_3 a1_4).bind fun t324 => (impl_SetPut.j1 k1 x5_1 false l0 (l0.length : Int) x12_1 (!t324) a1_0 a1_1 a1_2 a1_3 a1_4 ((rd_T27 l0 x12_1).f0) ((rd_T27 l0 x12_1).f1) ((rd_T27 l0 x12_1).f2) ((rd_T27 l0 x12_1).f3) ((rd_T27 l0 x12_1).f4))) = some r := by rw [if_neg (show ¬ (false = true) by decide)] at H; exact H
        clear H
        have H := H1
        clear H1
        replace H := lF H
        obtain ⟨t324, A140, H⟩ := H
        replace H : (impl_SetPut.j1 k1 x5_1 false l0 (l0.length : Int) x12_1 (!t324) a1_0 a1_1 a1_2 a1_3 a1_4 ((rd_T27 l0 x12_1).f0) ((rd_T27 l0 x12_1).f1) ((rd_T27 l0 x12_1).f2) ((rd_T27 l0 x12_1).f3) ((rd_T27 l0 x12_1).f4)) = some r := H
        have A14 := aA.mk A140
        clear A140
        have H' := aA.mk H
        clear H
        have hnb15 := NB323_315.out
        have hnc15 := NB315_323.out
        have hcz16_0 : w10.cell? ⟨gb323, 0, none⟩ = some (.int .i64 0) := (aG BK323.out 0).trans rfl
        have hcz16_1 : w10.cell? ⟨gb323, 1, none⟩ = some (.int .i64 0) := (aG BK323.out 1).trans rfl
        have hcz16_2 : w10.cell? ⟨gb323, 2, none⟩ = some (.int .i64 0) := (aG BK323.out 2).trans rfl
        have hcz16_3 : w10.cell? ⟨gb323, 3, none⟩ = some (.int .i64 0) := (aG BK323.out 3).trans rfl
        have hcz16_4 : w10.cell? ⟨gb323, 4, none⟩ = some (.int .i64 0) := (aG BK323.out 4).trans rfl
        have hfz16_0 := aH BK323.out 0
        have hfz16_1 := aH BK323.out 1
        have hfz16_2 := aH BK323.out 2
        have hfz16_3 := aH BK323.out 3
        have hfz16_4 := aH BK323.out 4
        have hcz17_0 : w10.cell? ⟨gb315, 0, none⟩ = some (.int .i64 a1_0) := (aG BK315.out 0).trans rfl
        have hcz17_1 : w10.cell? ⟨gb315, 1, none⟩ = some (.int .i64 a1_1) := (aG BK315.out 1).trans rfl
        have hcz17_2 : w10.cell? ⟨gb315, 2, none⟩ = some (.int .i64 a1_2) := (aG BK315.out 2).trans rfl
        have hcz17_3 : w10.cell? ⟨gb315, 3, none⟩ = some (.int .i64 a1_3) := (aG BK315.out 3).trans rfl
        have hcz17_4 : w10.cell? ⟨gb315, 4, none⟩ = some (.int .i64 a1_4) := (aG BK315.out 4).trans rfl
        have hfz17_0 := aH BK315.out 0
        have hfz17_1 := aH BK315.out 1
        have hfz17_2 := aH BK315.out 2
        have hfz17_3 := aH BK315.out 3
        have hfz17_4 := aH BK315.out 4
        go_wp2_with (first | (go_at_call 92; (with_reducible refine (impl_LessKey.calls ((rd_T27 l0 x12_1).f0) ((rd_T27 l0 x12_1).f1) ((rd_T27 l0 x12_1).f2) ((rd_T27 l0 x12_1).f3) ((rd_T27 l0 x12_1).f4) a1_0 a1_1 a1_2 a1_3 a1_4 t324 _ A14.out).mono ?_); rintro e w18 ⟨rfl, hb⟩; have n0_ := aA.mk (Kd.bQ (by (with_reducible repeat (first | apply Kd.bA | apply Kd.aZ | apply Kd.bB)); exact (Kd.bR (Kd.R_far (p := ⟨gb323, 4, none⟩) (Kd.R_far (p := ⟨gb323, 3, none⟩) (Kd.R_far (p := ⟨gb323, 2, none⟩) (Kd.R_far (p := ⟨gb323, 1, none⟩) (Kd.R_far (p := ⟨gb323, 0, none⟩) (Kd.bR HO_5.out (fun k_ hk => (⟨hk, hk.2⟩ : _ ∧ k_ ≠ gb323))) (fun _ hk => hk.2) (.int .i64 ((rd_T27 l0 x12_1).f0))) (fun _ hk => hk.2) (.int .i64 ((rd_T27 l0 x12_1).f1))) (fun _ hk => hk.2) (.int .i64 ((rd_T27 l0 x12_1).f2))) (fun _ hk => hk.2) (.int .i64 ((rd_T27 l0 x12_1).f3))) (fun _ hk => hk.2) (.int .i64 ((rd_T27 l0 x12_1).f4))) (fun _ h_ => h_.1))) hb); have n1_ := aA.mk (aY (g := gb315) (o := .cells #[.int .i64 a1_0, .int .i64 a1_1, .int .i64 a1_2, .int .i64 a1_3, .int .i64 a1_4] 27 (0, 0)) (by (with_reducible repeat (first | refine aK ?_ _ | refine aN ?_ | refine aM ?_ _)); refine blk_far ?_ NB315_323.out _; (with_reducible repeat (first | refine aK ?_ _ | refine aN ?_ | refine aM ?_ _)); refine blk_far ?_ NB315_323.out _; (with_reducible repeat (first | refine aK ?_ _ | refine aN ?_ | refine aM ?_ _)); refine blk_far ?_ NB315_323.out _; (with_reducible repeat (first | refine aK ?_ _ | refine aN ?_ | refine aM ?_ _)); refine blk_far ?_ NB315_323.out _; (with_reducible repeat (first | refine aK ?_ _ | refine aN ?_ | refine aM ?_ _)); refine blk_far ?_ NB315_323.out _; (with_reducible repeat (first | refine aK ?_ _ | refine aN ?_ | refine aM ?_ _)); exact BK315.out) hb); have n2_ := aA.mk (aY (g := gb323) (o := .cells #[.int .i64 ((rd_T27 l0 x12_1).f0), .int .i64 ((rd_T27 l0 x12_1).f1), .int .i64 ((rd_T27 l0 x12_1).f2), .int .i64 ((rd_T27 l0 x12_1).f3), .int .i64 ((rd_T27 l0 x12_1).f4)] 27 (0, 0)) (by (with_reducible repeat (first | refine aK ?_ _ | refine aN ?_ | refine aM ?_ _)); refine bM (cs := #[.int .i64 ((rd_T27 l0 x12_1).f0), .int .i64 ((rd_T27 l0 x12_1).f1), .int .i64 ((rd_T27 l0 x12_1).f2), .int .i64 ((rd_T27 l0 x12_1).f3), .int .i64 0]) ?_ 4 _ rfl; (with_reducible repeat (first | refine aK ?_ _ | refine aN ?_ | refine aM ?_ _)); refine bM (cs := #[.int .i64 ((rd_T27 l0 x12_1).f0), .int .i64 ((rd_T27 l0 x12_1).f1), .int .i64 ((rd_T27 l0 x12_1).f2), .int .i64 0, .int .i64 0]) ?_ 3 _ rfl; (with_reducible repeat (first | refine aK ?_ _ | refine aN ?_ | refine aM ?_ _)); refine bM (cs := #[.int .i64 ((rd_T27 l0 x12_1).f0), .int .i64 ((rd_T27 l0 x12_1).f1), .int .i64 0, .int .i64 0, .int .i64 0]) ?_ 2 _ rfl; (with_reducible repeat (first | refine aK ?_ _ | refine aN ?_ | refine aM ?_ _)); refine bM (cs := #[.int .i64 ((rd_T27 l0 x12_1).f0), .int .i64 0, .int .i64 0, .int .i64 0, .int .i64 0]) ?_ 1 _ rfl; (with_reducible repeat (first | refine aK ?_ _ | refine aN ?_ | refine aM ?_ _)); refine bM (cs := #[.int .i64 0, .int .i64 0, .int .i64 0, .int .i64 0, .int .i64 0]) ?_ 0 _ rfl; (with_reducible repeat (first | refine aK ?_ _ | refine aN ?_ | refine aM ?_ _)); exact BK323.out) hb); have n3_ := aA.mk (aV (by repeat (first | (with_reducible first | exact HB.out | apply aE | apply aC | apply aD | refine aJ ?_ GE315.out | refine aJ ?_ GE323.out) | exact HB.out)) hb); clear HO_5; clear BK315; clear BK323; clear HB; have HO_5 := n0_; have BK315 := n1_; have BK323 := n2_; have HB := n3_; clear n0_ n1_ n2_ n3_; (try clear hb); (try clear hk)))
        go_meet
        case rel => exact ⟨_, (!t324), (by first | rfl | (simp; done) | (simp [*]; done)), H', ⟨by have := HK1.out; first | omega | exact Nat.le_refl _⟩, ⟨by (with_reducible repeat (first | apply Kd.bA | apply Kd.aZ | apply Kd.bB)); exact HO_5.out⟩, ⟨by (with_reducible repeat (first | refine aK ?_ _ | refine aN ?_ | refine aM ?_ _)); exact BK315.out⟩, ⟨by (with_reducible repeat (first | refine aK ?_ _ | refine aN ?_ | refine aM ?_ _)); exact BK323.out⟩, ⟨by repeat (first | (with_reducible first | exact HB.out | apply aE | apply aC | apply aD | refine aJ ?_ GE315.out | refine aJ ?_ GE323.out) | exact HB.out)⟩⟩
      case rest =>
       clear HC9
       try clear c1
       try clear p2
       try clear p3
       try clear q3
       try clear hx3
       try clear c6
       try clear c6b0
       try clear c7
       try clear c7b0
       try clear c8
       try clear c8b0
       try clear c11
       try clear c13
       try clear c15
       try clear hcz12_0
       try clear hcz12_1
       try clear hcz12_2
       try clear hcz12_3
       try clear hcz12_4
       try clear hcz16_0
       try clear hcz16_1
       try clear hcz16_2
       try clear hcz16_3
       try clear hcz16_4
       try clear hcz17_0
       try clear hcz17_1
       try clear hcz17_2
       try clear hcz17_3
       try clear hcz17_4
       try clear hfz12_0
       try clear hfz12_1
       try clear hfz12_2
       try clear hfz12_3
       try clear hfz12_4
       try clear hfz16_0
       try clear hfz16_1
       try clear hfz16_2
       try clear hfz16_3
       try clear hfz16_4
       try clear hfz17_0
       try clear hfz17_1
       try clear hfz17_2
       try clear hfz17_3
       try clear hfz17_4
       try clear hx322_0
       try clear hx322_1
       try clear hx322_2
       try clear hx322_3
       try clear hx322_4
       try clear p2
       try clear p322
       try clear q322
       obtain ⟨kq, x23_8, rfl, HA, HJ8, HO_5, BK315, BK323, HB⟩ := hcut
       cases kq with
       | zero => exact absurd HA.out (by simp [impl_SetPut.j1])
       | succ kj8 =>
        have H := HA.out
        clear HA
        simp only [impl_SetPut.j1] at H
        by_cases c19 : x23_8 = true
        ·subst c19
         have H1 : (if x5_1.length < 3518437208883 then ((some (x5_1 ++ [(⟨a1_0, a1_1, a1_2, a1_3, a1_4⟩ : S27)] : List (S27))).bind fun y325 => ((impl_SameSpot.f ((rd_T27 l0 x12_1).f0) ((rd_T27 l0 x12_1).f1) ((rd_T27 l0 x12_1).f2) ((rd_T27 l0 x12_1).f3) ((rd_T27 l0 x12_1).f4) a1_0 a1_1 a1_2 a1_3 a1_4).bind fun t328 => (if t328 = true then (impl_SetPut.l0 kj8 y325 true l0 (l0.length : Int) (wrap64 (x12_1 + 1)) a1_0 a1_1 a1_2 a1_3 a1_4) else (if y325.length < 3518437208883 then (impl_SetPut.l0 kj8 (y325 ++ [(⟨((rd_T27 l0 x12_1).f0), ((rd_T27 l0 x12_1).f1), ((rd_T27 l0 x12_1).f2), ((rd_T27 l0 x12_1).f3), ((rd_T27 l0 x12_1).f4)⟩ : S27)]) true l0 (l0.length : Int) (wrap64 (x12_1 + 1)) a1_0 a1_1 a1_2 a1_3 a1_4) else (none))))) else (none)) = some r := by rw [if_pos rfl] at H; exact H
         clear H
         have H := H1
         clear H1
         by_cases c20 : x5_1.length < 3518437208883
         ·rw [if_pos c20] at H
          have LMc20 := aA.mk c20
          clear c20
          obtain ⟨y325, hy325⟩ : ∃ y_ : List (S27), y_ = (x5_1 ++ [(⟨a1_0, a1_1, a1_2, a1_3, a1_4⟩ : S27)]) := ⟨_, rfl⟩
          replace H : ((impl_SameSpot.f ((rd_T27 l0 x12_1).f0) ((rd_T27 l0 x12_1).f1) ((rd_T27 l0 x12_1).f2) ((rd_T27 l0 x12_1).f3) ((rd_T27 l0 x12_1).f4) a1_0 a1_1 a1_2 a1_3 a1_4).bind fun t328 => (if t328 = true then (impl_SetPut.l0 kj8 y325 true l0 (l0.length : Int) (wrap64 (x12_1 + 1)) a1_0 a1_1 a1_2 a1_3 a1_4) else (if y325.length < 3518437208883 then (impl_SetPut.l0 kj8 (y325 ++ [(⟨((rd_T27 l0 x12_1).f0), ((rd_T27 l0 x12_1).f1), ((rd_T27 l0 x12_1).f2), ((rd_T27 l0 x12_1).f3), ((rd_T27 l0 x12_1).f4)⟩ : S27)]) true l0 (l0.length : Int) (wrap64 (x12_1 + 1)) a1_0 a1_1 a1_2 a1_3 a1_4) else (none)))) = some r := by first | (rw [hy325]; with_reducible exact H) | (have H2_ := (Option.bind_some _ _).symm.trans H; rw [hy325]; with_reducible exact H2_) | (have H2_ := (Option.bind_some _ _).symm.trans H; with_reducible exact H2_) | with_reducible exact H | (rw [hy325]; exact H) | exact H
          have Ny325 := aA.mk hy325
          clear hy325
          replace H := lF H
          obtain ⟨t328, A210, H⟩ := H
          replace H : (if t328 = true then (impl_SetPut.l0 kj8 y325 true l0 (l0.length : Int) (wrap64 (x12_1 + 1)) a1_0 a1_1 a1_2 a1_3 a1_4) else (if y325.length < 3518437208883 then (impl_SetPut.l0 kj8 (y325 ++ [(⟨((rd_T27 l0 x12_1).f0), ((rd_T27 l0 x12_1).f1), ((rd_T27 l0 x12_1).f2), ((rd_T27 l0 x12_1).f3), ((rd_T27 l0 x12_1).f4)⟩ : S27)]) true l0 (l0.length : Int) (wrap64 (x12_1 + 1)) a1_0 a1_1 a1_2 a1_3 a1_4) else (none))) = some r := H
          have A21 := aA.mk A210
          clear A210
          by_cases c22 : t328 = true
          ·subst c22
           have H1 : (impl_SetPut.l0 kj8 y325 true l0 (l0.length : Int) (wrap64 (x12_1 + 1)) a1_0 a1_1 a1_2 a1_3 a1_4) = some r := by rw [if_pos rfl] at H; exact H
           clear H
           have H := H1
           clear H1
           have H' := aA.mk H
           clear H
           have hnb23 := NB315_323.out
           have hnc23 := NB323_315.out
           have hcz24_0 : wc.cell? ⟨gb315, 0, none⟩ = some (.int .i64 a1_0) := (aG BK315.out 0).trans rfl
           have hcz24_1 : wc.cell? ⟨gb315, 1, none⟩ = some (.int .i64 a1_1) := (aG BK315.out 1).trans rfl
           have hcz24_2 : wc.cell? ⟨gb315, 2, none⟩ = some (.int .i64 a1_2) := (aG BK315.out 2).trans rfl
           have hcz24_3 : wc.cell? ⟨gb315, 3, none⟩ = some (.int .i64 a1_3) := (aG BK315.out 3).trans rfl
           have hcz24_4 : wc.cell? ⟨gb315, 4, none⟩ = some (.int .i64 a1_4) := (aG BK315.out 4).trans rfl
           have hfz24_0 := aH BK315.out 0
           have hfz24_1 := aH BK315.out 1
           have hfz24_2 := aH BK315.out 2
           have hfz24_3 := aH BK315.out 3
           have hfz24_4 := aH BK315.out 4
           go_wp2_with (first | ((with_reducible refine gate_builtin (b := .append) (xs := #[.tmp 24, .tmp 26]) rfl ?_); at_builtin; refine Kd.R_append k27 (w0 := w) w.heap.size rfl (.tmp 24) (.tmp 26) 40 27 (.agg #[(.int .i64 0), (.int .i64 0), (.int .i64 0), (.int .i64 0), (.int .i64 0)]) 40 rfl Try.underlying40 info27 rfl (by decide) (by omega) u5 x5_1 (⟨a1_0, a1_1, a1_2, a1_3, a1_4⟩ : S27) [.int .i64 a1_0, .int .i64 a1_1, .int .i64 a1_2, .int .i64 a1_3, .int .i64 a1_4] (fun k_ => k_ ≠ gb315 ∧ k_ ≠ gb323) (fun _ => False) rfl rfl ?aP (fun _ hk => hk.elim) ?aF ?aO ?aB ?aS ?aL ?_; (case aP => exact k27_mkM _ _ _ (⟨a1_0, a1_1, a1_2, a1_3, a1_4⟩ : S27)); (case aB => exact (by repeat (first | (with_reducible first | exact HB.out | apply aE | apply aC | apply aD | refine aJ ?_ GE315.out | refine aJ ?_ GE323.out) | exact HB.out))); (case aF => exact (fun k_ hk => ⟨Kd.freshB (g := gb315) (o := .cells #[.int .i64 a1_0, .int .i64 a1_1, .int .i64 a1_2, .int .i64 a1_3, .int .i64 a1_4] 27 (0, 0)) (by (with_reducible repeat (first | refine aK ?_ _ | refine aN ?_ | refine aM ?_ _)); exact BK315.out) k_ hk, Kd.freshB (g := gb323) (o := .cells #[.int .i64 ((rd_T27 l0 x12_1).f0), .int .i64 ((rd_T27 l0 x12_1).f1), .int .i64 ((rd_T27 l0 x12_1).f2), .int .i64 ((rd_T27 l0 x12_1).f3), .int .i64 ((rd_T27 l0 x12_1).f4)] 27 (0, 0)) (by (with_reducible repeat (first | refine aK ?_ _ | refine aN ?_ | refine aM ?_ _)); exact BK323.out) k_ hk⟩)); (case aO => exact (by (with_reducible repeat (first | apply Kd.bA | apply Kd.aZ | apply Kd.bB)); exact HO_5.out)); (case aS => exact (aQ (by repeat (first | (with_reducible first | exact HB.out | apply aE | apply aC | apply aD | refine aJ ?_ GE315.out | refine aJ ?_ GE323.out) | exact HB.out)))); (case aL => have := LMc20.out; omega); intro v326 w25 ho hb hg hat; rw [← Ny325.out] at ho; have n0_ := aA.mk (blk_grown (g := gb315) (o := .cells #[.int .i64 a1_0, .int .i64 a1_1, .int .i64 a1_2, .int .i64 a1_3, .int .i64 a1_4] 27 (0, 0)) (by (with_reducible repeat (first | refine aK ?_ _ | refine aN ?_ | refine aM ?_ _)); exact BK315.out) hg (Kd.R_away HO_5.out (fun _ hk => hk.1))); have n1_ := aA.mk (blk_grown (g := gb323) (o := .cells #[.int .i64 ((rd_T27 l0 x12_1).f0), .int .i64 ((rd_T27 l0 x12_1).f1), .int .i64 ((rd_T27 l0 x12_1).f2), .int .i64 ((rd_T27 l0 x12_1).f3), .int .i64 ((rd_T27 l0 x12_1).f4)] 27 (0, 0)) (by (with_reducible repeat (first | refine aK ?_ _ | refine aN ?_ | refine aM ?_ _)); exact BK323.out) hg (Kd.R_away HO_5.out (fun _ hk => hk.2))); have n2_ := aA.mk (hb); have n3_ := aA.mk (ho); clear BK315; clear BK323; clear HB; clear HO_5; have BK315 := n0_; have BK323 := n1_; have HB := n2_; have HO327 := n3_; clear n0_ n1_ n2_ n3_; clear ho hb hg hat; have hcz26_0 : w25.cell? ⟨gb323, 0, none⟩ = some (.int .i64 ((rd_T27 l0 x12_1).f0)) := (aG BK323.out 0).trans rfl; have hcz26_1 : w25.cell? ⟨gb323, 1, none⟩ = some (.int .i64 ((rd_T27 l0 x12_1).f1)) := (aG BK323.out 1).trans rfl; have hcz26_2 : w25.cell? ⟨gb323, 2, none⟩ = some (.int .i64 ((rd_T27 l0 x12_1).f2)) := (aG BK323.out 2).trans rfl; have hcz26_3 : w25.cell? ⟨gb323, 3, none⟩ = some (.int .i64 ((rd_T27 l0 x12_1).f3)) := (aG BK323.out 3).trans rfl; have hcz26_4 : w25.cell? ⟨gb323, 4, none⟩ = some (.int .i64 ((rd_T27 l0 x12_1).f4)) := (aG BK323.out 4).trans rfl; have hfz26_0 := aH BK323.out 0; have hfz26_1 := aH BK323.out 1; have hfz26_2 := aH BK323.out 2; have hfz26_3 := aH BK323.out 3; have hfz26_4 := aH BK323.out 4; have hcz27_0 : w25.cell? ⟨gb315, 0, none⟩ = some (.int .i64 a1_0) := (aG BK315.out 0).trans rfl; have hcz27_1 : w25.cell? ⟨gb315, 1, none⟩ = some (.int .i64 a1_1) := (aG BK315.out 1).trans rfl; have hcz27_2 : w25.cell? ⟨gb315, 2, none⟩ = some (.int .i64 a1_2) := (aG BK315.out 2).trans rfl; have hcz27_3 : w25.cell? ⟨gb315, 3, none⟩ = some (.int .i64 a1_3) := (aG BK315.out 3).trans rfl; have hcz27_4 : w25.cell? ⟨gb315, 4, none⟩ = some (.int .i64 a1_4) := (aG BK315.out 4).trans rfl; have hfz27_0 := aH BK315.out 0; have hfz27_1 := aH BK315.out 1; have hfz27_2 := aH BK315.out 2; have hfz27_3 := aH BK315.out 3; have hfz27_4 := aH BK315.out 4) | ((with_reducible refine bC (f := 95) rfl ?_); refine bL (some 30) rfl rfl Try.func95 (by kernel_rfl) rfl #[.agg #[.int .i64 ((rd_T27 l0 x12_1).f0), .int .i64 ((rd_T27 l0 x12_1).f1), .int .i64 ((rd_T27 l0 x12_1).f2), .int .i64 ((rd_T27 l0 x12_1).f3), .int .i64 ((rd_T27 l0 x12_1).f4)], .agg #[.int .i64 a1_0, .int .i64 a1_1, .int .i64 a1_2, .int .i64 a1_3, .int .i64 a1_4]] rfl (by (try simp only [List.map_toArray, List.map_cons, List.map_nil]); first | done | rfl | (simp only [List.length_drop, List.length_take]; rfl)) ?_; (with_reducible refine (impl_SameSpot.calls ((rd_T27 l0 x12_1).f0) ((rd_T27 l0 x12_1).f1) ((rd_T27 l0 x12_1).f2) ((rd_T27 l0 x12_1).f3) ((rd_T27 l0 x12_1).f4) a1_0 a1_1 a1_2 a1_3 a1_4 true _ A21.out).mono ?_); rintro e w28 ⟨rfl, hb⟩; refine ⟨_, rfl, ?_⟩; have n0_ := aA.mk (Kd.bQ (by (with_reducible repeat (first | apply Kd.bA | apply Kd.aZ | apply Kd.bB)); exact HO327.out) hb); have n1_ := aA.mk (aY (g := gb315) (o := .cells #[.int .i64 a1_0, .int .i64 a1_1, .int .i64 a1_2, .int .i64 a1_3, .int .i64 a1_4] 27 (0, 0)) (by (with_reducible repeat (first | refine aK ?_ _ | refine aN ?_ | refine aM ?_ _)); exact BK315.out) hb); have n2_ := aA.mk (aY (g := gb323) (o := .cells #[.int .i64 ((rd_T27 l0 x12_1).f0), .int .i64 ((rd_T27 l0 x12_1).f1), .int .i64 ((rd_T27 l0 x12_1).f2), .int .i64 ((rd_T27 l0 x12_1).f3), .int .i64 ((rd_T27 l0 x12_1).f4)] 27 (0, 0)) (by (with_reducible repeat (first | refine aK ?_ _ | refine aN ?_ | refine aM ?_ _)); exact BK323.out) hb); have n3_ := aA.mk (aV (by repeat (first | (with_reducible first | exact HB.out | apply aE | apply aC | apply aD | refine aJ ?_ GE315.out | refine aJ ?_ GE323.out) | exact HB.out)) hb); clear HO327; clear BK315; clear BK323; clear HB; have HO327 := n0_; have BK315 := n1_; have BK323 := n2_; have HB := n3_; clear n0_ n1_ n2_ n3_; (try clear hb); (try clear hk)))
           go_roundg kj8
           case measure => have := HK1.out; have := HJ8.out; omega
           case rel => exact ⟨(y325), (true), (wrap64 (x12_1 + 1)), (by first | rfl | (simp; done) | (simp [*]; done)), (by first | rfl | (simp; done) | (simp [*]; done)), H', ⟨by have := HK1.out; have := HJ8.out; omega⟩, ⟨by (with_reducible repeat (first | apply Kd.bA | apply Kd.aZ | apply Kd.bB)); exact Kd.bR HO327.out (fun _ hk => hk.1)⟩, ⟨by (with_reducible repeat (first | refine aK ?_ _ | refine aN ?_ | refine aM ?_ _)); exact BK315.out⟩, ⟨by repeat (first | (with_reducible first | exact HB.out | apply aE | apply aC | apply aD | refine aJ ?_ GE315.out | refine aJ ?_ GE323.out) | exact HB.out)⟩⟩
          ·replace c22 := Bool.eq_false_iff.mpr c22
           subst c22
           have H1 : (if y325.length < 3518437208883 then (impl_SetPut.l0 kj8 (y325 ++ [(⟨((rd_T27 l0 x12_1).f0), ((rd_T27 l0 x12_1).f1), ((rd_T27 l0 x12_1).f2), ((rd_T27 l0 x12_1).f3), ((rd_T27 l0 x12_1).f4)⟩ : S27)]) true l0 (l0.length : Int) (wrap64 (x12_1 + 1)) a1_0 a1_1 a1_2 a1_3 a1_4) else (none)) = some r := by rw [if_neg (show ¬ (false = true) by decide)] at H; exact H
           clear H
           have H := H1
           clear H1
           by_cases c29 : y325.length < 3518437208883
           ·rw [if_pos c29] at H
            have LMc29 := aA.mk c29
            clear c29
            obtain ⟨y329, hy329⟩ : ∃ y_ : List (S27), y_ = (y325 ++ [(⟨((rd_T27 l0 x12_1).f0), ((rd_T27 l0 x12_1).f1), ((rd_T27 l0 x12_1).f2), ((rd_T27 l0 x12_1).f3), ((rd_T27 l0 x12_1).f4)⟩ : S27)]) := ⟨_, rfl⟩
            replace H : (impl_SetPut.l0 kj8 y329 true l0 (l0.length : Int) (wrap64 (x12_1 + 1)) a1_0 a1_1 a1_2 a1_3 a1_4) = some r := by first | (rw [hy329]; with_reducible exact H) | (have H2_ := (Option.bind_some _ _).symm.trans H; rw [hy329]; with_reducible exact H2_) | (have H2_ := (Option.bind_some _ _).symm.trans H; with_reducible exact H2_) | with_reducible exact H | (rw [hy329]; exact H) | exact H
            have Ny329 := aA.mk hy329
            clear hy329
            have H' := aA.mk H
            clear H
            have hnb30 := NB315_323.out
            have hnc30 := NB323_315.out
            have hcz31_0 : wc.cell? ⟨gb315, 0, none⟩ = some (.int .i64 a1_0) := (aG BK315.out 0).trans rfl
            have hcz31_1 : wc.cell? ⟨gb315, 1, none⟩ = some (.int .i64 a1_1) := (aG BK315.out 1).trans rfl
            have hcz31_2 : wc.cell? ⟨gb315, 2, none⟩ = some (.int .i64 a1_2) := (aG BK315.out 2).trans rfl
            have hcz31_3 : wc.cell? ⟨gb315, 3, none⟩ = some (.int .i64 a1_3) := (aG BK315.out 3).trans rfl
            have hcz31_4 : wc.cell? ⟨gb315, 4, none⟩ = some (.int .i64 a1_4) := (aG BK315.out 4).trans rfl
            have hfz31_0 := aH BK315.out 0
            have hfz31_1 := aH BK315.out 1
            have hfz31_2 := aH BK315.out 2
            have hfz31_3 := aH BK315.out 3
            have hfz31_4 := aH BK315.out 4
            go_wp2_with (first | ((with_reducible refine gate_builtin (b := .append) (xs := #[.tmp 24, .tmp 26]) rfl ?_); at_builtin; refine Kd.R_append k27 (w0 := w) w.heap.size rfl (.tmp 24) (.tmp 26) 40 27 (.agg #[(.int .i64 0), (.int .i64 0), (.int .i64 0), (.int .i64 0), (.int .i64 0)]) 40 rfl Try.underlying40 info27 rfl (by decide) (by omega) u5 x5_1 (⟨a1_0, a1_1, a1_2, a1_3, a1_4⟩ : S27) [.int .i64 a1_0, .int .i64 a1_1, .int .i64 a1_2, .int .i64 a1_3, .int .i64 a1_4] (fun k_ => k_ ≠ gb315 ∧ k_ ≠ gb323) (fun _ => False) rfl rfl ?aP (fun _ hk => hk.elim) ?aF ?aO ?aB ?aS ?aL ?_; (case aP => exact k27_mkM _ _ _ (⟨a1_0, a1_1, a1_2, a1_3, a1_4⟩ : S27)); (case aB => exact (by repeat (first | (with_reducible first | exact HB.out | apply aE | apply aC | apply aD | refine aJ ?_ GE315.out | refine aJ ?_ GE323.out) | exact HB.out))); (case aF => exact (fun k_ hk => ⟨Kd.freshB (g := gb315) (o := .cells #[.int .i64 a1_0, .int .i64 a1_1, .int .i64 a1_2, .int .i64 a1_3, .int .i64 a1_4] 27 (0, 0)) (by (with_reducible repeat (first | refine aK ?_ _ | refine aN ?_ | refine aM ?_ _)); exact BK315.out) k_ hk, Kd.freshB (g := gb323) (o := .cells #[.int .i64 ((rd_T27 l0 x12_1).f0), .int .i64 ((rd_T27 l0 x12_1).f1), .int .i64 ((rd_T27 l0 x12_1).f2), .int .i64 ((rd_T27 l0 x12_1).f3), .int .i64 ((rd_T27 l0 x12_1).f4)] 27 (0, 0)) (by (with_reducible repeat (first | refine aK ?_ _ | refine aN ?_ | refine aM ?_ _)); exact BK323.out) k_ hk⟩)); (case aO => exact (by (with_reducible repeat (first | apply Kd.bA | apply Kd.aZ | apply Kd.bB)); exact HO_5.out)); (case aS => exact (aQ (by repeat (first | (with_reducible first | exact HB.out | apply aE | apply aC | apply aD | refine aJ ?_ GE315.out | refine aJ ?_ GE323.out) | exact HB.out)))); (case aL => have := LMc20.out; omega); intro v326 w32 ho hb hg hat; rw [← Ny325.out] at ho; have n0_ := aA.mk (blk_grown (g := gb315) (o := .cells #[.int .i64 a1_0, .int .i64 a1_1, .int .i64 a1_2, .int .i64 a1_3, .int .i64 a1_4] 27 (0, 0)) (by (with_reducible repeat (first | refine aK ?_ _ | refine aN ?_ | refine aM ?_ _)); exact BK315.out) hg (Kd.R_away HO_5.out (fun _ hk => hk.1))); have n1_ := aA.mk (blk_grown (g := gb323) (o := .cells #[.int .i64 ((rd_T27 l0 x12_1).f0), .int .i64 ((rd_T27 l0 x12_1).f1), .int .i64 ((rd_T27 l0 x12_1).f2), .int .i64 ((rd_T27 l0 x12_1).f3), .int .i64 ((rd_T27 l0 x12_1).f4)] 27 (0, 0)) (by (with_reducible repeat (first | refine aK ?_ _ | refine aN ?_ | refine aM ?_ _)); exact BK323.out) hg (Kd.R_away HO_5.out (fun _ hk => hk.2))); have n2_ := aA.mk (hb); have n3_ := aA.mk (ho); clear BK315; clear BK323; clear HB; clear HO_5; have BK315 := n0_; have BK323 := n1_; have HB := n2_; have HO327 := n3_; clear n0_ n1_ n2_ n3_; clear ho hb hg hat; have hcz33_0 : w32.cell? ⟨gb323, 0, none⟩ = some (.int .i64 ((rd_T27 l0 x12_1).f0)) := (aG BK323.out 0).trans rfl; have hcz33_1 : w32.cell? ⟨gb323, 1, none⟩ = some (.int .i64 ((rd_T27 l0 x12_1).f1)) := (aG BK323.out 1).trans rfl; have hcz33_2 : w32.cell? ⟨gb323, 2, none⟩ = some (.int .i64 ((rd_T27 l0 x12_1).f2)) := (aG BK323.out 2).trans rfl; have hcz33_3 : w32.cell? ⟨gb323, 3, none⟩ = some (.int .i64 ((rd_T27 l0 x12_1).f3)) := (aG BK323.out 3).trans rfl; have hcz33_4 : w32.cell? ⟨gb323, 4, none⟩ = some (.int .i64 ((rd_T27 l0 x12_1).f4)) := (aG BK323.out 4).trans rfl; have hfz33_0 := aH BK323.out 0; have hfz33_1 := aH BK323.out 1; have hfz33_2 := aH BK323.out 2; have hfz33_3 := aH BK323.out 3; have hfz33_4 := aH BK323.out 4; have hcz34_0 : w32.cell? ⟨gb315, 0, none⟩ = some (.int .i64 a1_0) := (aG BK315.out 0).trans rfl; have hcz34_1 : w32.cell? ⟨gb315, 1, none⟩ = some (.int .i64 a1_1) := (aG BK315.out 1).trans rfl; have hcz34_2 : w32.cell? ⟨gb315, 2, none⟩ = some (.int .i64 a1_2) := (aG BK315.out 2).trans rfl; have hcz34_3 : w32.cell? ⟨gb315, 3, none⟩ = some (.int .i64 a1_3) := (aG BK315.out 3).trans rfl; have hcz34_4 : w32.cell? ⟨gb315, 4, none⟩ = some (.int .i64 a1_4) := (aG BK315.out 4).trans rfl; have hfz34_0 := aH BK315.out 0; have hfz34_1 := aH BK315.out 1; have hfz34_2 := aH BK315.out 2; have hfz34_3 := aH BK315.out 3; have hfz34_4 := aH BK315.out 4) | ((with_reducible refine bC (f := 95) rfl ?_); refine bL (some 30) rfl rfl Try.func95 (by kernel_rfl) rfl #[.agg #[.int .i64 ((rd_T27 l0 x12_1).f0), .int .i64 ((rd_T27 l0 x12_1).f1), .int .i64 ((rd_T27 l0 x12_1).f2), .int .i64 ((rd_T27 l0 x12_1).f3), .int .i64 ((rd_T27 l0 x12_1).f4)], .agg #[.int .i64 a1_0, .int .i64 a1_1, .int .i64 a1_2, .int .i64 a1_3, .int .i64 a1_4]] rfl (by (try simp only [List.map_toArray, List.map_cons, List.map_nil]); first | done | rfl | (simp only [List.length_drop, List.length_take]; rfl)) ?_; (with_reducible refine (impl_SameSpot.calls ((rd_T27 l0 x12_1).f0) ((rd_T27 l0 x12_1).f1) ((rd_T27 l0 x12_1).f2) ((rd_T27 l0 x12_1).f3) ((rd_T27 l0 x12_1).f4) a1_0 a1_1 a1_2 a1_3 a1_4 false _ A21.out).mono ?_); rintro e w35 ⟨rfl, hb⟩; refine ⟨_, rfl, ?_⟩; have n0_ := aA.mk (Kd.bQ (by (with_reducible repeat (first | apply Kd.bA | apply Kd.aZ | apply Kd.bB)); exact HO327.out) hb); have n1_ := aA.mk (aY (g := gb315) (o := .cells #[.int .i64 a1_0, .int .i64 a1_1, .int .i64 a1_2, .int .i64 a1_3, .int .i64 a1_4] 27 (0, 0)) (by (with_reducible repeat (first | refine aK ?_ _ | refine aN ?_ | refine aM ?_ _)); exact BK315.out) hb); have n2_ := aA.mk (aY (g := gb323) (o := .cells #[.int .i64 ((rd_T27 l0 x12_1).f0), .int .i64 ((rd_T27 l0 x12_1).f1), .int .i64 ((rd_T27 l0 x12_1).f2), .int .i64 ((rd_T27 l0 x12_1).f3), .int .i64 ((rd_T27 l0 x12_1).f4)] 27 (0, 0)) (by (with_reducible repeat (first | refine aK ?_ _ | refine aN ?_ | refine aM ?_ _)); exact BK323.out) hb); have n3_ := aA.mk (aV (by repeat (first | (with_reducible first | exact HB.out | apply aE | apply aC | apply aD | refine aJ ?_ GE315.out | refine aJ ?_ GE323.out) | exact HB.out)) hb); clear HO327; clear BK315; clear BK323; clear HB; have HO327 := n0_; have BK315 := n1_; have BK323 := n2_; have HB := n3_; clear n0_ n1_ n2_ n3_; (try clear hb); (try clear hk); have hcz36_0 : w35.cell? ⟨gb323, 0, none⟩ = some (.int .i64 ((rd_T27 l0 x12_1).f0)) := (aG BK323.out 0).trans rfl; have hcz36_1 : w35.cell? ⟨gb323, 1, none⟩ = some (.int .i64 ((rd_T27 l0 x12_1).f1)) := (aG BK323.out 1).trans rfl; have hcz36_2 : w35.cell? ⟨gb323, 2, none⟩ = some (.int .i64 ((rd_T27 l0 x12_1).f2)) := (aG BK323.out 2).trans rfl; have hcz36_3 : w35.cell? ⟨gb323, 3, none⟩ = some (.int .i64 ((rd_T27 l0 x12_1).f3)) := (aG BK323.out 3).trans rfl; have hcz36_4 : w35.cell? ⟨gb323, 4, none⟩ = some (.int .i64 ((rd_T27 l0 x12_1).f4)) := (aG BK323.out 4).trans rfl; have hfz36_0 := aH BK323.out 0; have hfz36_1 := aH BK323.out 1; have hfz36_2 := aH BK323.out 2; have hfz36_3 := aH BK323.out 3; have hfz36_4 := aH BK323.out 4) | ((with_reducible refine gate_builtin (b := .append) (xs := #[.tmp 32, .tmp 34]) rfl ?_); at_builtin; refine Kd.R_append k27 (w0 := w) w.heap.size rfl (.tmp 32) (.tmp 34) 40 27 (.agg #[(.int .i64 0), (.int .i64 0), (.int .i64 0), (.int .i64 0), (.int .i64 0)]) 40 rfl Try.underlying40 info27 rfl (by decide) (by omega) v326 y325 (⟨((rd_T27 l0 x12_1).f0), ((rd_T27 l0 x12_1).f1), ((rd_T27 l0 x12_1).f2), ((rd_T27 l0 x12_1).f3), ((rd_T27 l0 x12_1).f4)⟩ : S27) [.int .i64 ((rd_T27 l0 x12_1).f0), .int .i64 ((rd_T27 l0 x12_1).f1), .int .i64 ((rd_T27 l0 x12_1).f2), .int .i64 ((rd_T27 l0 x12_1).f3), .int .i64 ((rd_T27 l0 x12_1).f4)] (fun k_ => k_ ≠ gb315 ∧ k_ ≠ gb323) (fun _ => False) rfl rfl ?aP (fun _ hk => hk.elim) ?aF ?aO ?aB ?aS ?aL ?_; (case aP => exact k27_mkM _ _ _ (⟨((rd_T27 l0 x12_1).f0), ((rd_T27 l0 x12_1).f1), ((rd_T27 l0 x12_1).f2), ((rd_T27 l0 x12_1).f3), ((rd_T27 l0 x12_1).f4)⟩ : S27)); (case aB => exact (by repeat (first | (with_reducible first | exact HB.out | apply aE | apply aC | apply aD | refine aJ ?_ GE315.out | refine aJ ?_ GE323.out) | exact HB.out))); (case aF => exact (fun k_ hk => ⟨Kd.freshB (g := gb315) (o := .cells #[.int .i64 a1_0, .int .i64 a1_1, .int .i64 a1_2, .int .i64 a1_3, .int .i64 a1_4] 27 (0, 0)) (by (with_reducible repeat (first | refine aK ?_ _ | refine aN ?_ | refine aM ?_ _)); exact BK315.out) k_ hk, Kd.freshB (g := gb323) (o := .cells #[.int .i64 ((rd_T27 l0 x12_1).f0), .int .i64 ((rd_T27 l0 x12_1).f1), .int .i64 ((rd_T27 l0 x12_1).f2), .int .i64 ((rd_T27 l0 x12_1).f3), .int .i64 ((rd_T27 l0 x12_1).f4)] 27 (0, 0)) (by (with_reducible repeat (first | refine aK ?_ _ | refine aN ?_ | refine aM ?_ _)); exact BK323.out) k_ hk⟩)); (case aO => exact (by (with_reducible repeat (first | apply Kd.bA | apply Kd.aZ | apply Kd.bB)); exact HO327.out)); (case aS => exact (aQ (by repeat (first | (with_reducible first | exact HB.out | apply aE | apply aC | apply aD | refine aJ ?_ GE315.out | refine aJ ?_ GE323.out) | exact HB.out)))); (case aL => have := LMc29.out; omega); intro v330 w37 ho hb hg hat; rw [← Ny329.out] at ho; have n0_ := aA.mk (blk_grown (g := gb315) (o := .cells #[.int .i64 a1_0, .int .i64 a1_1, .int .i64 a1_2, .int .i64 a1_3, .int .i64 a1_4] 27 (0, 0)) (by (with_reducible repeat (first | refine aK ?_ _ | refine aN ?_ | refine aM ?_ _)); exact BK315.out) hg (Kd.R_away HO327.out (fun _ hk => hk.1))); have n1_ := aA.mk (blk_grown (g := gb323) (o := .cells #[.int .i64 ((rd_T27 l0 x12_1).f0), .int .i64 ((rd_T27 l0 x12_1).f1), .int .i64 ((rd_T27 l0 x12_1).f2), .int .i64 ((rd_T27 l0 x12_1).f3), .int .i64 ((rd_T27 l0 x12_1).f4)] 27 (0, 0)) (by (with_reducible repeat (first | refine aK ?_ _ | refine aN ?_ | refine aM ?_ _)); exact BK323.out) hg (Kd.R_away HO327.out (fun _ hk => hk.2))); have n2_ := aA.mk (hb); have n3_ := aA.mk (ho); clear BK315; clear BK323; clear HB; clear HO327; have BK315 := n0_; have BK323 := n1_; have HB := n2_; have HO331 := n3_; clear n0_ n1_ n2_ n3_; clear ho hb hg hat))
            go_roundg kj8
            case measure => have := HK1.out; have := HJ8.out; omega
            case rel => exact ⟨(y329), (true), (wrap64 (x12_1 + 1)), (by first | rfl | (simp; done) | (simp [*]; done)), (by first | rfl | (simp; done) | (simp [*]; done)), H', ⟨by have := HK1.out; have := HJ8.out; omega⟩, ⟨by (with_reducible repeat (first | apply Kd.bA | apply Kd.aZ | apply Kd.bB)); exact Kd.bR HO331.out (fun _ hk => hk.1)⟩, ⟨by (with_reducible repeat (first | refine aK ?_ _ | refine aN ?_ | refine aM ?_ _)); exact BK315.out⟩, ⟨by repeat (first | (with_reducible first | exact HB.out | apply aE | apply aC | apply aD | refine aJ ?_ GE315.out | refine aJ ?_ GE323.out) | exact HB.out)⟩⟩
           ·rw [if_neg c29] at H
            exact absurd H (by simp)
         ·rw [if_neg c20] at H
          exact absurd H (by simp)
        ·replace c19 := Bool.eq_false_iff.mpr c19
         subst c19
         have H1 : ((impl_SameSpot.f ((rd_T27 l0 x12_1).f0) ((rd_T27 l0 x12_1).f1) ((rd_T27 l0 x12_1).f2) ((rd_T27 l0 x12_1).f3) ((rd_T27 l0 x12_1).f4) a1_0 a1_1 a1_2 a1_3 a1_4).bind fun t332 => (if t332 = true then (impl_SetPut.l0 kj8 x5_1 x6_1 l0 (l0.length : Int) (wrap64 (x12_1 + 1)) a1_0 a1_1 a1_2 a1_3 a1_4) else (if x5_1.length < 3518437208883 then (impl_SetPut.l0 kj8 (x5_1 ++ [(⟨((rd_T27 l0 x12_1).f0), ((rd_T27 l0 x12_1).f1), ((rd_T27 l0 x12_1).f2), ((rd_T27 l0 x12_1).f3), ((rd_T27 l0 x12_1).f4)⟩ : S27)]) x6_1 l0 (l0.length : Int) (wrap64 (x12_1 + 1)) a1_0 a1_1 a1_2 a1_3 a1_4) else (none)))) = some r := by rw [if_neg (show ¬ (false = true) by decide)] at H; exact H
         clear H
         have H := H1
         clear H1
         replace H := lF H
         obtain ⟨t332, A380, H⟩ := H
         replace H : (if t332 = true then (impl_SetPut.l0 kj8 x5_1 x6_1 l0 (l0.length : Int) (wrap64 (x12_1 + 1)) a1_0 a1_1 a1_2 a1_3 a1_4) else (if x5_1.length < 3518437208883 then (impl_SetPut.l0 kj8 (x5_1 ++ [(⟨((rd_T27 l0 x12_1).f0), ((rd_T27 l0 x12_1).f1), ((rd_T27 l0 x12_1).f2), ((rd_T27 l0 x12_1).f3), ((rd_T27 l0 x12_1).f4)⟩ : S27)]) x6_1 l0 (l0.length : Int) (wrap64 (x12_1 + 1)) a1_0 a1_1 a1_2 a1_3 a1_4) else (none))) = some r := H
         have A38 := aA.mk A380
         clear A380
         by_cases c39 : t332 = true
         ·subst c39
          have H1 : (impl_SetPut.l0 kj8 x5_1 x6_1 l0 (l0.length : Int) (wrap64 (x12_1 + 1)) a1_0 a1_1 a1_2 a1_3 a1_4) = some r := by rw [if_pos rfl] at H; exact H
          clear H
          have H := H1
          clear H1
          have H' := aA.mk H
          clear H
          have hnb40 := NB323_315.out
          have hnc40 := NB315_323.out
          have hcz41_0 : wc.cell? ⟨gb323, 0, none⟩ = some (.int .i64 ((rd_T27 l0 x12_1).f0)) := (aG BK323.out 0).trans rfl
          have hcz41_1 : wc.cell? ⟨gb323, 1, none⟩ = some (.int .i64 ((rd_T27 l0 x12_1).f1)) := (aG BK323.out 1).trans rfl
          have hcz41_2 : wc.cell? ⟨gb323, 2, none⟩ = some (.int .i64 ((rd_T27 l0 x12_1).f2)) := (aG BK323.out 2).trans rfl
          have hcz41_3 : wc.cell? ⟨gb323, 3, none⟩ = some (.int .i64 ((rd_T27 l0 x12_1).f3)) := (aG BK323.out 3).trans rfl
          have hcz41_4 : wc.cell? ⟨gb323, 4, none⟩ = some (.int .i64 ((rd_T27 l0 x12_1).f4)) := (aG BK323.out 4).trans rfl
          have hfz41_0 := aH BK323.out 0
          have hfz41_1 := aH BK323.out 1
          have hfz41_2 := aH BK323.out 2
          have hfz41_3 := aH BK323.out 3
          have hfz41_4 := aH BK323.out 4
          have hcz42_0 : wc.cell? ⟨gb315, 0, none⟩ = some (.int .i64 a1_0) := (aG BK315.out 0).trans rfl
          have hcz42_1 : wc.cell? ⟨gb315, 1, none⟩ = some (.int .i64 a1_1) := (aG BK315.out 1).trans rfl
          have hcz42_2 : wc.cell? ⟨gb315, 2, none⟩ = some (.int .i64 a1_2) := (aG BK315.out 2).trans rfl
          have hcz42_3 : wc.cell? ⟨gb315, 3, none⟩ = some (.int .i64 a1_3) := (aG BK315.out 3).trans rfl
          have hcz42_4 : wc.cell? ⟨gb315, 4, none⟩ = some (.int .i64 a1_4) := (aG BK315.out 4).trans rfl
          have hfz42_0 := aH BK315.out 0
          have hfz42_1 := aH BK315.out 1
          have hfz42_2 := aH BK315.out 2
          have hfz42_3 := aH BK315.out 3
          have hfz42_4 := aH BK315.out 4
          go_wp2_with (first | ((with_reducible refine bC (f := 95) rfl ?_); refine bL (some 30) rfl rfl Try.func95 (by kernel_rfl) rfl #[.agg #[.int .i64 ((rd_T27 l0 x12_1).f0), .int .i64 ((rd_T27 l0 x12_1).f1), .int .i64 ((rd_T27 l0 x12_1).f2), .int .i64 ((rd_T27 l0 x12_1).f3), .int .i64 ((rd_T27 l0 x12_1).f4)], .agg #[.int .i64 a1_0, .int .i64 a1_1, .int .i64 a1_2, .int .i64 a1_3, .int .i64 a1_4]] rfl (by (try simp only [List.map_toArray, List.map_cons, List.map_nil]); first | done | rfl | (simp only [List.length_drop, List.length_take]; rfl)) ?_; (with_reducible refine (impl_SameSpot.calls ((rd_T27 l0 x12_1).f0) ((rd_T27 l0 x12_1).f1) ((rd_T27 l0 x12_1).f2) ((rd_T27 l0 x12_1).f3) ((rd_T27 l0 x12_1).f4) a1_0 a1_1 a1_2 a1_3 a1_4 true _ A38.out).mono ?_); rintro e w43 ⟨rfl, hb⟩; refine ⟨_, rfl, ?_⟩; have n0_ := aA.mk (Kd.bQ (by (with_reducible repeat (first | apply Kd.bA | apply Kd.aZ | apply Kd.bB)); exact HO_5.out) hb); have n1_ := aA.mk (aY (g := gb315) (o := .cells #[.int .i64 a1_0, .int .i64 a1_1, .int .i64 a1_2, .int .i64 a1_3, .int .i64 a1_4] 27 (0, 0)) (by (with_reducible repeat (first | refine aK ?_ _ | refine aN ?_ | refine aM ?_ _)); exact BK315.out) hb); have n2_ := aA.mk (aY (g := gb323) (o := .cells #[.int .i64 ((rd_T27 l0 x12_1).f0), .int .i64 ((rd_T27 l0 x12_1).f1), .int .i64 ((rd_T27 l0 x12_1).f2), .int .i64 ((rd_T27 l0 x12_1).f3), .int .i64 ((rd_T27 l0 x12_1).f4)] 27 (0, 0)) (by (with_reducible repeat (first | refine aK ?_ _ | refine aN ?_ | refine aM ?_ _)); exact BK323.out) hb); have n3_ := aA.mk (aV (by repeat (first | (with_reducible first | exact HB.out | apply aE | apply aC | apply aD | refine aJ ?_ GE315.out | refine aJ ?_ GE323.out) | exact HB.out)) hb); clear HO_5; clear BK315; clear BK323; clear HB; have HO_5 := n0_; have BK315 := n1_; have BK323 := n2_; have HB := n3_; clear n0_ n1_ n2_ n3_; (try clear hb)))
          go_roundg kj8
          case measure => have := HK1.out; have := HJ8.out; omega
          case rel => exact ⟨(x5_1), (x6_1), (wrap64 (x12_1 + 1)), (by first | rfl | (simp; done) | (simp [*]; done)), (by first | rfl | (simp; done) | (simp [*]; done)), H', ⟨by have := HK1.out; have := HJ8.out; omega⟩, ⟨by (with_reducible repeat (first | apply Kd.bA | apply Kd.aZ | apply Kd.bB)); exact Kd.bR HO_5.out (fun _ hk => hk.1)⟩, ⟨by (with_reducible repeat (first | refine aK ?_ _ | refine aN ?_ | refine aM ?_ _)); exact BK315.out⟩, ⟨by repeat (first | (with_reducible first | exact HB.out | apply aE | apply aC | apply aD | refine aJ ?_ GE315.out | refine aJ ?_ GE323.out) | exact HB.out)⟩⟩
         ·replace c39 := Bool.eq_false_iff.mpr c39
          subst c39
          have H1 : (if x5_1.length < 3518437208883 then (impl_SetPut.l0 kj8 (x5_1 ++ [(⟨((rd_T27 l0 x12_1).f0), ((rd_T27 l0 x12_1).f1), ((rd_T27 l0 x12_1).f2), ((rd_T27 l0 x12_1).f3), ((rd_T27 l0 x12_1).f4)⟩ : S27)]) x6_1 l0 (l0.length : Int) (wrap64 (x12_1 + 1)) a1_0 a1_1 a1_2 a1_3 a1_4) else (none)) = some r := by rw [if_neg (show ¬ (false = true) by decide)] at H; exact H
          clear H
          have H := H1
          clear H1
          by_cases c44 : x5_1.length < 3518437208883
          ·rw [if_pos c44] at H
           have LMc44 := aA.mk c44
           clear c44
           obtain ⟨y333, hy333⟩ : ∃ y_ : List (S27), y_ = (x5_1 ++ [(⟨((rd_T27 l0 x12_1).f0), ((rd_T27 l0 x12_1).f1), ((rd_T27 l0 x12_1).f2), ((rd_T27 l0 x12_1).f3), ((rd_T27 l0 x12_1).f4)⟩ : S27)]) := ⟨_, rfl⟩
           replace H : (impl_SetPut.l0 kj8 y333 x6_1 l0 (l0.length : Int) (wrap64 (x12_1 + 1)) a1_0 a1_1 a1_2 a1_3 a1_4) = some r := by first | (rw [hy333]; with_reducible exact H) | (have H2_ := (Option.bind_some _ _).symm.trans H; rw [hy333]; with_reducible exact H2_) | (have H2_ := (Option.bind_some _ _).symm.trans H; with_reducible exact H2_) | with_reducible exact H | (rw [hy333]; exact H) | exact H
           have Ny333 := aA.mk hy333
           clear hy333
           have H' := aA.mk H
           clear H
           have hnb45 := NB323_315.out
           have hnc45 := NB315_323.out
           have hcz46_0 : wc.cell? ⟨gb323, 0, none⟩ = some (.int .i64 ((rd_T27 l0 x12_1).f0)) := (aG BK323.out 0).trans rfl
           have hcz46_1 : wc.cell? ⟨gb323, 1, none⟩ = some (.int .i64 ((rd_T27 l0 x12_1).f1)) := (aG BK323.out 1).trans rfl
           have hcz46_2 : wc.cell? ⟨gb323, 2, none⟩ = some (.int .i64 ((rd_T27 l0 x12_1).f2)) := (aG BK323.out 2).trans rfl
           have hcz46_3 : wc.cell? ⟨gb323, 3, none⟩ = some (.int .i64 ((rd_T27 l0 x12_1).f3)) := (aG BK323.out 3).trans rfl
           have hcz46_4 : wc.cell? ⟨gb323, 4, none⟩ = some (.int .i64 ((rd_T27 l0 x12_1).f4)) := (aG BK323.out 4).trans rfl
           have hfz46_0 := aH BK323.out 0
           have hfz46_1 := aH BK323.out 1
           have hfz46_2 := aH BK323.out 2
           have hfz46_3 := aH BK323.out 3
           have hfz46_4 := aH BK323.out 4
           have hcz47_0 : wc.cell? ⟨gb315, 0, none⟩ = some (.int .i64 a1_0) := (aG BK315.out 0).trans rfl
           have hcz47_1 : wc.cell? ⟨gb315, 1, none⟩ = some (.int .i64 a1_1) := (aG BK315.out 1).trans rfl
           have hcz47_2 : wc.cell? ⟨gb315, 2, none⟩ = some (.int .i64 a1_2) := (aG BK315.out 2).trans rfl
           have hcz47_3 : wc.cell? ⟨gb315, 3, none⟩ = some (.int .i64 a1_3) := (aG BK315.out 3).trans rfl
           have hcz47_4 : wc.cell? ⟨gb315, 4, none⟩ = some (.int .i64 a1_4) := (aG BK315.out 4).trans rfl
           have hfz47_0 := aH BK315.out 0
           have hfz47_1 := aH BK315.out 1
           have hfz47_2 := aH BK315.out 2
           have hfz47_3 := aH BK315.out 3
           have hfz47_4 := aH BK315.out 4
           go_wp2_with (first | ((with_reducible refine bC (f := 95) rfl ?_); refine bL (some 30) rfl rfl Try.func95 (by kernel_rfl) rfl #[.agg #[.int .i64 ((rd_T27 l0 x12_1).f0), .int .i64 ((rd_T27 l0 x12_1).f1), .int .i64 ((rd_T27 l0 x12_1).f2), .int .i64 ((rd_T27 l0 x12_1).f3), .int .i64 ((rd_T27 l0 x12_1).f4)], .agg #[.int .i64 a1_0, .int .i64 a1_1, .int .i64 a1_2, .int .i64 a1_3, .int .i64 a1_4]] rfl (by (try simp only [List.map_toArray, List.map_cons, List.map_nil]); first | done | rfl | (simp only [List.length_drop, List.length_take]; rfl)) ?_; (with_reducible refine (impl_SameSpot.calls ((rd_T27 l0 x12_1).f0) ((rd_T27 l0 x12_1).f1) ((rd_T27 l0 x12_1).f2) ((rd_T27 l0 x12_1).f3) ((rd_T27 l0 x12_1).f4) a1_0 a1_1 a1_2 a1_3 a1_4 false _ A38.out).mono ?_); rintro e w48 ⟨rfl, hb⟩; refine ⟨_, rfl, ?_⟩; have n0_ := aA.mk (Kd.bQ (by (with_reducible repeat (first | apply Kd.bA | apply Kd.aZ | apply Kd.bB)); exact HO_5.out) hb); have n1_ := aA.mk (aY (g := gb315) (o := .cells #[.int .i64 a1_0, .int .i64 a1_1, .int .i64 a1_2, .int .i64 a1_3, .int .i64 a1_4] 27 (0, 0)) (by (with_reducible repeat (first | refine aK ?_ _ | refine aN ?_ | refine aM ?_ _)); exact BK315.out) hb); have n2_ := aA.mk (aY (g := gb323) (o := .cells #[.int .i64 ((rd_T27 l0 x12_1).f0), .int .i64 ((rd_T27 l0 x12_1).f1), .int .i64 ((rd_T27 l0 x12_1).f2), .int .i64 ((rd_T27 l0 x12_1).f3), .int .i64 ((rd_T27 l0 x12_1).f4)] 27 (0, 0)) (by (with_reducible repeat (first | refine aK ?_ _ | refine aN ?_ | refine aM ?_ _)); exact BK323.out) hb); have n3_ := aA.mk (aV (by repeat (first | (with_reducible first | exact HB.out | apply aE | apply aC | apply aD | refine aJ ?_ GE315.out | refine aJ ?_ GE323.out) | exact HB.out)) hb); clear HO_5; clear BK315; clear BK323; clear HB; have HO_5 := n0_; have BK315 := n1_; have BK323 := n2_; have HB := n3_; clear n0_ n1_ n2_ n3_; (try clear hb); (try clear hk); have hcz49_0 : w48.cell? ⟨gb323, 0, none⟩ = some (.int .i64 ((rd_T27 l0 x12_1).f0)) := (aG BK323.out 0).trans rfl; have hcz49_1 : w48.cell? ⟨gb323, 1, none⟩ = some (.int .i64 ((rd_T27 l0 x12_1).f1)) := (aG BK323.out 1).trans rfl; have hcz49_2 : w48.cell? ⟨gb323, 2, none⟩ = some (.int .i64 ((rd_T27 l0 x12_1).f2)) := (aG BK323.out 2).trans rfl; have hcz49_3 : w48.cell? ⟨gb323, 3, none⟩ = some (.int .i64 ((rd_T27 l0 x12_1).f3)) := (aG BK323.out 3).trans rfl; have hcz49_4 : w48.cell? ⟨gb323, 4, none⟩ = some (.int .i64 ((rd_T27 l0 x12_1).f4)) := (aG BK323.out 4).trans rfl; have hfz49_0 := aH BK323.out 0; have hfz49_1 := aH BK323.out 1; have hfz49_2 := aH BK323.out 2; have hfz49_3 := aH BK323.out 3; have hfz49_4 := aH BK323.out 4) | ((with_reducible refine gate_builtin (b := .append) (xs := #[.tmp 32, .tmp 34]) rfl ?_); at_builtin; refine Kd.R_append k27 (w0 := w) w.heap.size rfl (.tmp 32) (.tmp 34) 40 27 (.agg #[(.int .i64 0), (.int .i64 0), (.int .i64 0), (.int .i64 0), (.int .i64 0)]) 40 rfl Try.underlying40 info27 rfl (by decide) (by omega) u5 x5_1 (⟨((rd_T27 l0 x12_1).f0), ((rd_T27 l0 x12_1).f1), ((rd_T27 l0 x12_1).f2), ((rd_T27 l0 x12_1).f3), ((rd_T27 l0 x12_1).f4)⟩ : S27) [.int .i64 ((rd_T27 l0 x12_1).f0), .int .i64 ((rd_T27 l0 x12_1).f1), .int .i64 ((rd_T27 l0 x12_1).f2), .int .i64 ((rd_T27 l0 x12_1).f3), .int .i64 ((rd_T27 l0 x12_1).f4)] (fun k_ => k_ ≠ gb315 ∧ k_ ≠ gb323) (fun _ => False) rfl rfl ?aP (fun _ hk => hk.elim) ?aF ?aO ?aB ?aS ?aL ?_; (case aP => exact k27_mkM _ _ _ (⟨((rd_T27 l0 x12_1).f0), ((rd_T27 l0 x12_1).f1), ((rd_T27 l0 x12_1).f2), ((rd_T27 l0 x12_1).f3), ((rd_T27 l0 x12_1).f4)⟩ : S27)); (case aB => exact (by repeat (first | (with_reducible first | exact HB.out | apply aE | apply aC | apply aD | refine aJ ?_ GE315.out | refine aJ ?_ GE323.out) | exact HB.out))); (case aF => exact (fun k_ hk => ⟨Kd.freshB (g := gb315) (o := .cells #[.int .i64 a1_0, .int .i64 a1_1, .int .i64 a1_2, .int .i64 a1_3, .int .i64 a1_4] 27 (0, 0)) (by (with_reducible repeat (first | refine aK ?_ _ | refine aN ?_ | refine aM ?_ _)); exact BK315.out) k_ hk, Kd.freshB (g := gb323) (o := .cells #[.int .i64 ((rd_T27 l0 x12_1).f0), .int .i64 ((rd_T27 l0 x12_1).f1), .int .i64 ((rd_T27 l0 x12_1).f2), .int .i64 ((rd_T27 l0 x12_1).f3), .int .i64 ((rd_T27 l0 x12_1).f4)] 27 (0, 0)) (by (with_reducible repeat (first | refine aK ?_ _ | refine aN ?_ | refine aM ?_ _)); exact BK323.out) k_ hk⟩)); (case aO => exact (by (with_reducible repeat (first | apply Kd.bA | apply Kd.aZ | apply Kd.bB)); exact HO_5.out)); (case aS => exact (aQ (by repeat (first | (with_reducible first | exact HB.out | apply aE | apply aC | apply aD | refine aJ ?_ GE315.out | refine aJ ?_ GE323.out) | exact HB.out)))); (case aL => have := LMc44.out; omega); intro v334 w50 ho hb hg hat; rw [← Ny333.out] at ho; have n0_ := aA.mk (blk_grown (g := gb315) (o := .cells #[.int .i64 a1_0, .int .i64 a1_1, .int .i64 a1_2, .int .i64 a1_3, .int .i64 a1_4] 27 (0, 0)) (by (with_reducible repeat (first | refine aK ?_ _ | refine aN ?_ | refine aM ?_ _)); exact BK315.out) hg (Kd.R_away HO_5.out (fun _ hk => hk.1))); have n1_ := aA.mk (blk_grown (g := gb323) (o := .cells #[.int .i64 ((rd_T27 l0 x12_1).f0), .int .i64 ((rd_T27 l0 x12_1).f1), .int .i64 ((rd_T27 l0 x12_1).f2), .int .i64 ((rd_T27 l0 x12_1).f3), .int .i64 ((rd_T27 l0 x12_1).f4)] 27 (0, 0)) (by (with_reducible repeat (first | refine aK ?_ _ | refine aN ?_ | refine aM ?_ _)); exact BK323.out) hg (Kd.R_away HO_5.out (fun _ hk => hk.2))); have n2_ := aA.mk (hb); have n3_ := aA.mk (ho); clear BK315; clear BK323; clear HB; clear HO_5; have BK315 := n0_; have BK323 := n1_; have HB := n2_; have HO335 := n3_; clear n0_ n1_ n2_ n3_; clear ho hb hg hat))
           go_roundg kj8
           case measure => have := HK1.out; have := HJ8.out; omega
           case rel => exact ⟨(y333), (x6_1), (wrap64 (x12_1 + 1)), (by first | rfl | (simp; done) | (simp [*]; done)), (by first | rfl | (simp; done) | (simp [*]; done)), H', ⟨by have := HK1.out; have := HJ8.out; omega⟩, ⟨by (with_reducible repeat (first | apply Kd.bA | apply Kd.aZ | apply Kd.bB)); exact Kd.bR HO335.out (fun _ hk => hk.1)⟩, ⟨by (with_reducible repeat (first | refine aK ?_ _ | refine aN ?_ | refine aM ?_ _)); exact BK315.out⟩, ⟨by repeat (first | (with_reducible first | exact HB.out | apply aE | apply aC | apply aD | refine aJ ?_ GE315.out | refine aJ ?_ GE323.out) | exact HB.out)⟩⟩
          ·rw [if_neg c44] at H
           exact absurd H (by simp)
     ·rw [if_neg c8] at H
      exact absurd H (by simp)
    ·rw [if_neg c7] at H
     exact absurd H (by simp)
   ·rw [if_neg c6] at H
    have c6b0 : decide (x12_1 < (l0.length : Int)) = false := decide_eq_false c6
    clear c6
    by_cases c51 : x6_1 = true
    ·subst c51
     have H1 : (some x5_1) = some r := by rw [if_pos rfl] at H; exact H
     clear H
     have H := H1
     clear H1
     obtain rfl := Option.some.inj H
     go_wp2
     go_ret
     exact ⟨_, by first | rfl | (simp [errW_none, errW_some] <;> rfl) | (simp [*, errW_none, errW_some] <;> rfl), by (with_reducible repeat (first | apply Kd.bA | apply Kd.aZ | apply Kd.bB)); exact Kd.bR HO_5.out (fun _ hk => trivial), by repeat (first | (with_reducible first | exact HB.out | apply aE | apply aC | apply aD | refine aJ ?_ GE315.out) | exact HB.out)⟩
    ·replace c51 := Bool.eq_false_iff.mpr c51
     subst c51
     have H1 : (if x5_1.length < 3518437208883 then (some (x5_1 ++ [(⟨a1_0, a1_1, a1_2, a1_3, a1_4⟩ : S27)])) else (none)) = some r := by rw [if_neg (show ¬ (false = true) by decide)] at H; exact H
     clear H
     have H := H1
     clear H1
     by_cases c52 : x5_1.length < 3518437208883
     ·rw [if_pos c52] at H
      have LMc52 := aA.mk c52
      clear c52
      obtain ⟨y319, hy319⟩ : ∃ y_ : List (S27), y_ = (x5_1 ++ [(⟨a1_0, a1_1, a1_2, a1_3, a1_4⟩ : S27)]) := ⟨_, rfl⟩
      replace H : (some y319) = some r := by first | (rw [hy319]; with_reducible exact H) | (have H2_ := (Option.bind_some _ _).symm.trans H; rw [hy319]; with_reducible exact H2_) | (have H2_ := (Option.bind_some _ _).symm.trans H; with_reducible exact H2_) | with_reducible exact H | (rw [hy319]; exact H) | exact H
      have Ny319 := aA.mk hy319
      clear hy319
      obtain rfl := Option.some.inj H
      have hcz53_0 : wr.cell? ⟨gb315, 0, none⟩ = some (.int .i64 a1_0) := (aG BK315.out 0).trans rfl
      have hcz53_1 : wr.cell? ⟨gb315, 1, none⟩ = some (.int .i64 a1_1) := (aG BK315.out 1).trans rfl
      have hcz53_2 : wr.cell? ⟨gb315, 2, none⟩ = some (.int .i64 a1_2) := (aG BK315.out 2).trans rfl
      have hcz53_3 : wr.cell? ⟨gb315, 3, none⟩ = some (.int .i64 a1_3) := (aG BK315.out 3).trans rfl
      have hcz53_4 : wr.cell? ⟨gb315, 4, none⟩ = some (.int .i64 a1_4) := (aG BK315.out 4).trans rfl
      have hfz53_0 := aH BK315.out 0
      have hfz53_1 := aH BK315.out 1
      have hfz53_2 := aH BK315.out 2
      have hfz53_3 := aH BK315.out 3
      have hfz53_4 := aH BK315.out 4
      go_wp2_with (first | ((with_reducible refine gate_builtin (b := .append) (xs := #[.tmp 39, .tmp 41]) rfl ?_); at_builtin; refine Kd.R_append k27 (w0 := w) w.heap.size rfl (.tmp 39) (.tmp 41) 40 27 (.agg #[(.int .i64 0), (.int .i64 0), (.int .i64 0), (.int .i64 0), (.int .i64 0)]) 40 rfl Try.underlying40 info27 rfl (by decide) (by omega) u5 x5_1 (⟨a1_0, a1_1, a1_2, a1_3, a1_4⟩ : S27) [.int .i64 a1_0, .int .i64 a1_1, .int .i64 a1_2, .int .i64 a1_3, .int .i64 a1_4] (fun k_ => k_ ≠ gb315) (fun _ => False) rfl rfl ?aP (fun _ hk => hk.elim) ?aF ?aO ?aB ?aS ?aL ?_; (case aP => exact k27_mkM _ _ _ (⟨a1_0, a1_1, a1_2, a1_3, a1_4⟩ : S27)); (case aB => exact (by repeat (first | (with_reducible first | exact HB.out | apply aE | apply aC | apply aD | refine aJ ?_ GE315.out) | exact HB.out))); (case aF => exact (fun k_ hk => Kd.freshB (g := gb315) (o := .cells #[.int .i64 a1_0, .int .i64 a1_1, .int .i64 a1_2, .int .i64 a1_3, .int .i64 a1_4] 27 (0, 0)) (by (with_reducible repeat (first | refine aK ?_ _ | refine aN ?_ | refine aM ?_ _)); exact BK315.out) k_ hk)); (case aO => exact (by (with_reducible repeat (first | apply Kd.bA | apply Kd.aZ | apply Kd.bB)); exact HO_5.out)); (case aS => exact (aQ (by repeat (first | (with_reducible first | exact HB.out | apply aE | apply aC | apply aD | refine aJ ?_ GE315.out) | exact HB.out)))); (case aL => have := LMc52.out; omega); intro v320 w54 ho hb hg hat; rw [← Ny319.out] at ho; have n0_ := aA.mk (blk_grown (g := gb315) (o := .cells #[.int .i64 a1_0, .int .i64 a1_1, .int .i64 a1_2, .int .i64 a1_3, .int .i64 a1_4] 27 (0, 0)) (by (with_reducible repeat (first | refine aK ?_ _ | refine aN ?_ | refine aM ?_ _)); exact BK315.out) hg (Kd.R_away HO_5.out (fun _ hk => hk))); have n1_ := aA.mk (hb); have n2_ := aA.mk (ho); clear BK315; clear HB; clear HO_5; have BK315 := n0_; have HB := n1_; have HO321 := n2_; clear n0_ n1_ n2_; clear ho hb hg hat))
      go_ret
      exact ⟨_, by first | rfl | (simp [errW_none, errW_some] <;> rfl) | (simp [*, errW_none, errW_some] <;> rfl), by (with_reducible repeat (first | apply Kd.bA | apply Kd.aZ | apply Kd.bB)); exact Kd.bR HO321.out (fun _ hk => trivial), by repeat (first | (with_reducible first | exact HB.out | apply aE | apply aC | apply aD | refine aJ ?_ GE315.out) | exact HB.out)⟩
     ·rw [if_neg c52] at H
      exact absurd H (by simp)
def impl_MergeSets.l0 : Nat → List (S27) → List (S27) → Int → Int → Option ((List (S27)))
 | 0, _, _, _, _ => none
 | k + 1, x5, x10, x11, x12 => if x12 < x11 then (if 0 ≤ x12 then (if x12 < (x10.length : Int) then ((impl_SetPut.f k x5 ((rd_T27 x10 x12).f0) ((rd_T27 x10 x12).f1) ((rd_T27 x10 x12).f2) ((rd_T27 x10 x12).f3) ((rd_T27 x10 x12).f4)).bind fun t341 => (impl_MergeSets.l0 k t341 x10 x11 (wrap64 (x12 + 1)))) else (none)) else (none)) else (some x5)
def impl_MergeSets.f (k : Nat) (l0 : List (S27)) (l1 : List (S27)) : Option ((List (S27))) := (impl_copyKeys.f l0).bind fun t336 => (impl_MergeSets.l0 k t336 l1 (l1.length : Int) 0)
set_option maxHeartbeats 8000000 in
set_option maxRecDepth 100000 in
theorem impl_MergeSets.calls (k : Nat) (A0 : Option Addr) (c0 : Nat) (l0 : List (S27)) (A1 : Option Addr) (c1 : Nat) (l1 : List (S27)) (r : List (S27)) (w : World) (hr0 : Kd.C k27 w A0 l0.length l0) (hc0 : l0.length ≤ c0) (hr1 : Kd.C k27 w A1 l1.length l1) (hc1 : l1.length ≤ c1) (h : impl_MergeSets.f k l0 l1 = some r) :
  Calls Try.prog 66 #[.slice A0 l0.length c0, .slice A1 l1.length c1] w fun e w' => ∃ v0_ : Value, e = .returned (v0_) ∧ Kd.R k27 27 w' w.heap.size (fun _ => True) v0_ r ∧ Below w.heap.size w w' := by
 have hu27 := Try.underlying27
 have HR0 := aA.mk hr0
 have HC0 := aA.mk hc0
 clear hr0 hc0
 have HR1 := aA.mk hr1
 have HC1 := aA.mk hc1
 clear hr1 hc1
 have HB := aA.mk (Below.refl w.heap.size w)
 have H : ((impl_copyKeys.f l0).bind fun t336 => (impl_MergeSets.l0 k t336 l1 (l1.length : Int) 0)) = some r := h
 clear h
 replace H := lF H
 obtain ⟨t336, A30, H⟩ := H
 replace H : (impl_MergeSets.l0 k t336 l1 (l1.length : Int) 0) = some r := H
 have A3 := aA.mk A30
 clear A30
 have H' := aA.mk H
 clear H
 go_enter Try.func66, Try.ntmps66
 go_wp2_with (first | ((with_reducible refine bC (f := 58) rfl ?_); refine bL (some 9) rfl rfl Try.func58 (by kernel_rfl) rfl #[.slice A0 l0.length c0] rfl (by (try simp only [List.map_toArray, List.map_cons, List.map_nil]); first | done | rfl | (simp only [List.length_drop, List.length_take]; rfl)) ?_; (with_reducible refine (impl_copyKeys.calls _ _ l0 t336 _ ?side1 ?side2 A3.out).mono ?_); (case side1 => repeat (first | exact HR0.out | (with_reducible refine Kd.bD ?_ _) | (with_reducible refine Kd.bE ?_ _) | (with_reducible refine Kd.bK ?_))); (case side2 => exact HC0.out); rintro e w4 ⟨v337, rfl, ho0, hb⟩; refine ⟨_, rfl, ?_⟩; have n0_ := aA.mk (Kd.R_lower ho0 (aQ (by repeat (first | (with_reducible first | exact HB.out | apply aE | apply aC | apply aD) | exact HB.out)))); have n1_ := aA.mk (aV (by repeat (first | (with_reducible first | exact HB.out | apply aE | apply aC | apply aD) | exact HB.out)) hb); clear HB; have HO338 := n0_; have HB := n1_; clear n0_ n1_; (try clear hb); (try clear ho0)))
 go_loopg [5, 12] k (fun kq v5 v12 w' => ∃ (x5_1 : List (S27)) (x12_1 : Int), v12 = .int .i64 x12_1 ∧ aA (impl_MergeSets.l0 kq x5_1 l1 (l1.length : Int) x12_1 = some r) ∧ aA (kq ≤ k) ∧ aA (Kd.R k27 27 w' w.heap.size (fun _ => True) v5 x5_1) ∧ aA (Below w.heap.size w w'))
 case atStart => exact ⟨(t336), (0), (by first | rfl | (simp; done) | (simp [*]; done)), H', ⟨Nat.le_refl _⟩, ⟨by (with_reducible repeat (first | apply Kd.bA | apply Kd.aZ | apply Kd.bB)); exact HO338.out⟩, ⟨by repeat (first | (with_reducible first | exact HB.out | apply aE | apply aC | apply aD) | exact HB.out)⟩⟩
 case round =>
  clear H'
  try clear c1
  try clear p2
  obtain ⟨x5_1, x12_1, rfl, HA, HK1, HO_5, HB⟩ := hrel
  cases gk with
  | zero => exact absurd HA.out (by simp [impl_MergeSets.l0])
  | succ k1 =>
   have H := HA.out
   clear HA
   simp only [impl_MergeSets.l0] at H
   by_cases c5 : x12_1 < (l1.length : Int)
   ·rw [if_pos c5] at H
    have c5b0 : decide (x12_1 < (l1.length : Int)) = true := decide_eq_true c5
    clear c5
    by_cases c6 : 0 ≤ x12_1
    ·rw [if_pos c6] at H
     have c6b0 : decide (0 ≤ x12_1) = true := decide_eq_true c6
     clear c6
     by_cases c7 : x12_1 < (l1.length : Int)
     ·rw [if_pos c7] at H
      have c7b0 : decide (x12_1 < (l1.length : Int)) = true := decide_eq_true c7
      clear c7
      replace H := lF H
      obtain ⟨t341, A80, H⟩ := H
      replace H : (impl_MergeSets.l0 k1 t341 l1 (l1.length : Int) (wrap64 (x12_1 + 1))) = some r := H
      have A8 := aA.mk A80
      clear A80
      have H' := aA.mk H
      clear H
      have p339 : 0 ≤ (x12_1 : Int) := lE (by first | (with_reducible assumption) | assumption)
      have q339 : x12_1 < (l1.length : Int) := lE (by first | (with_reducible assumption) | assumption)
      obtain ⟨ad339, e339, hx339_0, hx339_1, hx339_2, hx339_3, hx339_4⟩ := at_T27 HR1.out x12_1 p339 q339
      cases e339
      replace hx339_0 := (HB.out.cell (lD w _ hx339_0)).trans hx339_0
      replace hx339_1 := (HB.out.cell (lD w _ hx339_1)).trans hx339_1
      replace hx339_2 := (HB.out.cell (lD w _ hx339_2)).trans hx339_2
      replace hx339_3 := (HB.out.cell (lD w _ hx339_3)).trans hx339_3
      replace hx339_4 := (HB.out.cell (lD w _ hx339_4)).trans hx339_4
      replace p339 := eq_true p339
      replace q339 := eq_true q339
      go_wp2_with (first | ((with_reducible refine bF (N := 7) rfl ?_); refine bH ?hg (N := 7) ?hd (cs := #[.int .i64 0, .int .i64 0, .int .i64 0, .int .i64 0, .int .i64 0]) (t := 27) ?hr ?_; (case hd => rfl); (case hg => rfl); (case hr => first | (go_simp; done) | (go_simp; rfl)); intro gb340 hg w9 hbox hb; have n0_ := aA.mk (Kd.bQ (Kd.R_elderB (by (with_reducible repeat (first | apply Kd.bA | apply Kd.aZ | apply Kd.bB)); exact HO_5.out) gb340 (Nat.le_of_eq hg.symm)) hb); have n1_ := aA.mk (aV (by repeat (first | (with_reducible first | exact HB.out | apply aE | apply aC | apply aD) | exact HB.out)) hb); have n2_ := aA.mk (hbox); have n3_ := aA.mk ((by rw [hg]; exact (aQ (by repeat (first | (with_reducible first | exact HB.out | apply aE | apply aC | apply aD) | exact HB.out))) : w.heap.size ≤ gb340)); have n4_ := aA.mk ((by rw [hg]; exact (aQ (by repeat (first | (with_reducible first | exact HB.out | apply aE | apply aC | apply aD) | exact HB.out))) : w.heap.size ≤ gb340)); clear HO_5; clear HB; have HO_5 := n0_; have HB := n1_; have BK340 := n2_; have GW340 := n3_; have GE340 := n4_; clear n0_ n1_ n2_ n3_ n4_; clear hb hbox hg; have hcz10_0 : w9.cell? ⟨gb340, 0, none⟩ = some (.int .i64 0) := (aG BK340.out 0).trans rfl; have hcz10_1 : w9.cell? ⟨gb340, 1, none⟩ = some (.int .i64 0) := (aG BK340.out 1).trans rfl; have hcz10_2 : w9.cell? ⟨gb340, 2, none⟩ = some (.int .i64 0) := (aG BK340.out 2).trans rfl; have hcz10_3 : w9.cell? ⟨gb340, 3, none⟩ = some (.int .i64 0) := (aG BK340.out 3).trans rfl; have hcz10_4 : w9.cell? ⟨gb340, 4, none⟩ = some (.int .i64 0) := (aG BK340.out 4).trans rfl; have hfz10_0 := aH BK340.out 0; have hfz10_1 := aH BK340.out 1; have hfz10_2 := aH BK340.out 2; have hfz10_3 := aH BK340.out 3; have hfz10_4 := aH BK340.out 4; obtain ⟨Ao11, co11, eo11⟩ := Kd.R_slice HO_5.out; subst eo11) | ((with_reducible refine bC (f := 71) rfl ?_); refine bL (some 18) rfl rfl Try.func71 (by kernel_rfl) rfl #[.slice Ao11 x5_1.length co11, .agg #[.int .i64 ((rd_T27 l1 x12_1).f0), .int .i64 ((rd_T27 l1 x12_1).f1), .int .i64 ((rd_T27 l1 x12_1).f2), .int .i64 ((rd_T27 l1 x12_1).f3), .int .i64 ((rd_T27 l1 x12_1).f4)]] rfl (by (try simp only [List.map_toArray, List.map_cons, List.map_nil]); first | done | rfl | (simp only [List.length_drop, List.length_take]; rfl)) ?_; (with_reducible refine (impl_SetPut.calls k1 _ _ x5_1 ((rd_T27 l1 x12_1).f0) ((rd_T27 l1 x12_1).f1) ((rd_T27 l1 x12_1).f2) ((rd_T27 l1 x12_1).f3) ((rd_T27 l1 x12_1).f4) t341 _ ?side1 ?side2 A8.out).mono ?_); (case side1 => refine (Kd.R_reads' (e := 27) (base := w.heap.size) (ok := fun k_ => (True ∧ k_ ≠ gb340)) (n := x5_1.length) (c := co11) ?_).2.2; exact (by (with_reducible repeat (first | apply Kd.bA | apply Kd.aZ | apply Kd.bB)); exact (Kd.bR (Kd.R_far (p := ⟨gb340, 4, none⟩) (Kd.R_far (p := ⟨gb340, 3, none⟩) (Kd.R_far (p := ⟨gb340, 2, none⟩) (Kd.R_far (p := ⟨gb340, 1, none⟩) (Kd.R_far (p := ⟨gb340, 0, none⟩) (Kd.bR HO_5.out (fun k_ hk => (⟨hk, hk.2⟩ : _ ∧ k_ ≠ gb340))) (fun _ hk => hk.2) (.int .i64 ((rd_T27 l1 x12_1).f0))) (fun _ hk => hk.2) (.int .i64 ((rd_T27 l1 x12_1).f1))) (fun _ hk => hk.2) (.int .i64 ((rd_T27 l1 x12_1).f2))) (fun _ hk => hk.2) (.int .i64 ((rd_T27 l1 x12_1).f3))) (fun _ hk => hk.2) (.int .i64 ((rd_T27 l1 x12_1).f4))) (fun _ h_ => h_.1)))); (case side2 => exact (Kd.R_reads' HO_5.out).2.1); rintro e w12 ⟨v342, rfl, ho0, hb⟩; refine ⟨_, rfl, ?_⟩; have n0_ := aA.mk (Kd.R_elder' (by (with_reducible repeat (first | apply Kd.bA | apply Kd.aZ | apply Kd.bB)); exact (Kd.bR (Kd.R_far (p := ⟨gb340, 4, none⟩) (Kd.R_far (p := ⟨gb340, 3, none⟩) (Kd.R_far (p := ⟨gb340, 2, none⟩) (Kd.R_far (p := ⟨gb340, 1, none⟩) (Kd.R_far (p := ⟨gb340, 0, none⟩) (Kd.bR HO_5.out (fun k_ hk => (⟨hk, hk.2⟩ : _ ∧ k_ ≠ gb340))) (fun _ hk => hk.2) (.int .i64 ((rd_T27 l1 x12_1).f0))) (fun _ hk => hk.2) (.int .i64 ((rd_T27 l1 x12_1).f1))) (fun _ hk => hk.2) (.int .i64 ((rd_T27 l1 x12_1).f2))) (fun _ hk => hk.2) (.int .i64 ((rd_T27 l1 x12_1).f3))) (fun _ hk => hk.2) (.int .i64 ((rd_T27 l1 x12_1).f4))) (fun _ h_ => h_.1))) (Kd.R_base ho0) hb); have n1_ := aA.mk (Kd.R_lower (Kd.R_newB (Kd.R_new' ho0 (Kd.R_lt (by (with_reducible repeat (first | apply Kd.bA | apply Kd.aZ | apply Kd.bB)); exact (Kd.bR (Kd.R_far (p := ⟨gb340, 4, none⟩) (Kd.R_far (p := ⟨gb340, 3, none⟩) (Kd.R_far (p := ⟨gb340, 2, none⟩) (Kd.R_far (p := ⟨gb340, 1, none⟩) (Kd.R_far (p := ⟨gb340, 0, none⟩) (Kd.bR HO_5.out (fun k_ hk => (⟨hk, hk.2⟩ : _ ∧ k_ ≠ gb340))) (fun _ hk => hk.2) (.int .i64 ((rd_T27 l1 x12_1).f0))) (fun _ hk => hk.2) (.int .i64 ((rd_T27 l1 x12_1).f1))) (fun _ hk => hk.2) (.int .i64 ((rd_T27 l1 x12_1).f2))) (fun _ hk => hk.2) (.int .i64 ((rd_T27 l1 x12_1).f3))) (fun _ hk => hk.2) (.int .i64 ((rd_T27 l1 x12_1).f4))) (fun _ h_ => h_.1))))) (g := gb340) (o := .cells #[.int .i64 ((rd_T27 l1 x12_1).f0), .int .i64 ((rd_T27 l1 x12_1).f1), .int .i64 ((rd_T27 l1 x12_1).f2), .int .i64 ((rd_T27 l1 x12_1).f3), .int .i64 ((rd_T27 l1 x12_1).f4)] 27 (0, 0)) (by (with_reducible repeat (first | refine aK ?_ _ | refine aN ?_ | refine aM ?_ _)); refine bM (cs := #[.int .i64 ((rd_T27 l1 x12_1).f0), .int .i64 ((rd_T27 l1 x12_1).f1), .int .i64 ((rd_T27 l1 x12_1).f2), .int .i64 ((rd_T27 l1 x12_1).f3), .int .i64 0]) ?_ 4 _ rfl; (with_reducible repeat (first | refine aK ?_ _ | refine aN ?_ | refine aM ?_ _)); refine bM (cs := #[.int .i64 ((rd_T27 l1 x12_1).f0), .int .i64 ((rd_T27 l1 x12_1).f1), .int .i64 ((rd_T27 l1 x12_1).f2), .int .i64 0, .int .i64 0]) ?_ 3 _ rfl; (with_reducible repeat (first | refine aK ?_ _ | refine aN ?_ | refine aM ?_ _)); refine bM (cs := #[.int .i64 ((rd_T27 l1 x12_1).f0), .int .i64 ((rd_T27 l1 x12_1).f1), .int .i64 0, .int .i64 0, .int .i64 0]) ?_ 2 _ rfl; (with_reducible repeat (first | refine aK ?_ _ | refine aN ?_ | refine aM ?_ _)); refine bM (cs := #[.int .i64 ((rd_T27 l1 x12_1).f0), .int .i64 0, .int .i64 0, .int .i64 0, .int .i64 0]) ?_ 1 _ rfl; (with_reducible repeat (first | refine aK ?_ _ | refine aN ?_ | refine aM ?_ _)); refine bM (cs := #[.int .i64 0, .int .i64 0, .int .i64 0, .int .i64 0, .int .i64 0]) ?_ 0 _ rfl; (with_reducible repeat (first | refine aK ?_ _ | refine aN ?_ | refine aM ?_ _)); exact BK340.out)) (aQ (by repeat (first | (with_reducible first | exact HB.out | apply aE | apply aC | apply aD | refine aJ ?_ GE340.out) | exact HB.out)))); have n2_ := aA.mk (aY (g := gb340) (o := .cells #[.int .i64 ((rd_T27 l1 x12_1).f0), .int .i64 ((rd_T27 l1 x12_1).f1), .int .i64 ((rd_T27 l1 x12_1).f2), .int .i64 ((rd_T27 l1 x12_1).f3), .int .i64 ((rd_T27 l1 x12_1).f4)] 27 (0, 0)) (by (with_reducible repeat (first | refine aK ?_ _ | refine aN ?_ | refine aM ?_ _)); refine bM (cs := #[.int .i64 ((rd_T27 l1 x12_1).f0), .int .i64 ((rd_T27 l1 x12_1).f1), .int .i64 ((rd_T27 l1 x12_1).f2), .int .i64 ((rd_T27 l1 x12_1).f3), .int .i64 0]) ?_ 4 _ rfl; (with_reducible repeat (first | refine aK ?_ _ | refine aN ?_ | refine aM ?_ _)); refine bM (cs := #[.int .i64 ((rd_T27 l1 x12_1).f0), .int .i64 ((rd_T27 l1 x12_1).f1), .int .i64 ((rd_T27 l1 x12_1).f2), .int .i64 0, .int .i64 0]) ?_ 3 _ rfl; (with_reducible repeat (first | refine aK ?_ _ | refine aN ?_ | refine aM ?_ _)); refine bM (cs := #[.int .i64 ((rd_T27 l1 x12_1).f0), .int .i64 ((rd_T27 l1 x12_1).f1), .int .i64 0, .int .i64 0, .int .i64 0]) ?_ 2 _ rfl; (with_reducible repeat (first | refine aK ?_ _ | refine aN ?_ | refine aM ?_ _)); refine bM (cs := #[.int .i64 ((rd_T27 l1 x12_1).f0), .int .i64 0, .int .i64 0, .int .i64 0, .int .i64 0]) ?_ 1 _ rfl; (with_reducible repeat (first | refine aK ?_ _ | refine aN ?_ | refine aM ?_ _)); refine bM (cs := #[.int .i64 0, .int .i64 0, .int .i64 0, .int .i64 0, .int .i64 0]) ?_ 0 _ rfl; (with_reducible repeat (first | refine aK ?_ _ | refine aN ?_ | refine aM ?_ _)); exact BK340.out) hb); have n3_ := aA.mk (aV (by repeat (first | (with_reducible first | exact HB.out | apply aE | apply aC | apply aD | refine aJ ?_ GE340.out) | exact HB.out)) hb); clear HO_5; clear BK340; clear HB; have HO_5 := n0_; have HO343 := n1_; have BK340 := n2_; have HB := n3_; clear n0_ n1_ n2_ n3_; (try clear hb); (try clear hk); (try clear ho0)))
      go_roundg k1
      case measure => have := HK1.out; omega
      case rel => exact ⟨(t341), (wrap64 (x12_1 + 1)), (by first | rfl | (simp; done) | (simp [*]; done)), H', ⟨by have := HK1.out; omega⟩, ⟨by (with_reducible repeat (first | apply Kd.bA | apply Kd.aZ | apply Kd.bB)); exact Kd.bR HO343.out (fun _ hk => trivial)⟩, ⟨by repeat (first | (with_reducible first | exact HB.out | apply aE | apply aC | apply aD | refine aJ ?_ GE340.out) | exact HB.out)⟩⟩
     ·rw [if_neg c7] at H
      exact absurd H (by simp)
    ·rw [if_neg c6] at H
     exact absurd H (by simp)
   ·rw [if_neg c5] at H
    have c5b0 : decide (x12_1 < (l1.length : Int)) = false := decide_eq_false c5
    clear c5
    obtain rfl := Option.some.inj H
    go_wp2
    go_ret
    exact ⟨_, by first | rfl | (simp [errW_none, errW_some] <;> rfl) | (simp [*, errW_none, errW_some] <;> rfl), by (with_reducible repeat (first | apply Kd.bA | apply Kd.aZ | apply Kd.bB)); exact HO_5.out, by repeat (first | (with_reducible first | exact HB.out | apply aE | apply aC | apply aD) | exact HB.out)⟩
end Go.Proofs.Ythpfihklkcnckaa.PFnExactTreeOk
