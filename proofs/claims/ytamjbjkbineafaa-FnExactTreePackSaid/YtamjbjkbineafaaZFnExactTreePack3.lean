/- The law: the functions that it reaches, each with the proof that the machine's call comes to its answer, what they answer, and the law's row; each theorem says its conditions itself. -/
import Derived.Test.YtamjbjkbineafaaZFnExactTreePack2
import Derived.IntWalk
import Derived.Laws.BitsLemmas
namespace Go.Proofs.Ytamjbjkbineafaa.PFnExactTreePack
open Go.RowKit Go.Proofs.YtamjbjkbineafaaW.PrintWords Go.Proofs.YtamjbjkbineafaaW.PrintLast Go.Proofs.YtamjbjkbineafaaW.PrintMore
attribute [local go_sem] max2_int min2_int max_two min_two max_three min_three max_four min_four   -- for this text's walks alone
set_option linter.unusedVariables false
set_option linter.unusedSimpArgs false
def laws_eqNodeS.l0 : Nat → List (S59) → List (S59) → Int → Option (Bool)
 | 0, _, _, _ => none
 | k + 1, x0, x1, x5 => if x5 < (x0.length : Int) then (if 0 ≤ x5 then (if x5 < (x1.length : Int) then ((laws_eqNode.f k ((rd_T59 x0 x5).f0) ((rd_T59 x1 x5).f0)).bind fun t404 => (if t404 = true then (laws_eqNodeS.l0 k x0 x1 (wrap64 (x5 + 1))) else (some false))) else (none)) else (none)) else (some true)
def laws_eqNodeS.f (k : Nat) (l0 : List (S59)) (l1 : List (S59)) : Option (Bool) := if (l0.length : Int) = (l1.length : Int) then (laws_eqNodeS.l0 k l0 l1 0) else (some false)
def laws_eqNodeS.T6 : Bool × List (List Nat × List Nat) := (true, [([], []), ([], []), ([0, 1], [0, 1]), ([2], [2]), ([], []), ([], []), ([4, 5], [4, 5]), ([6], [6]), ([3, 7], [3, 7]), ([8], [8])])
def laws_eqNodeS.B6 : List Nat := [0, 0, 3, 7, 0, 0, 48, 112, 255, 511]
theorem laws_eqNodeS.tab6 : rtab .any (opsOf Try.f35 6) = laws_eqNodeS.T6 := by kernel_rfl
theorem laws_eqNodeS.bits6 : waitsOk laws_eqNodeS.T6.2 laws_eqNodeS.B6 = true := by kernel_rfl
set_option maxHeartbeats 8000000 in
set_option maxRecDepth 100000 in
theorem laws_eqNodeS.calls (k : Nat) (A0 : Option Addr) (c0 : Nat) (l0 : List (S59)) (A1 : Option Addr) (c1 : Nat) (l1 : List (S59)) (r : Bool) (w : World) (hr0 : Kd.C k59 w A0 l0.length l0) (hc0 : l0.length ≤ c0) (hr1 : Kd.C k59 w A1 l1.length l1) (hc1 : l1.length ≤ c1) (h : laws_eqNodeS.f k l0 l1 = some r) :
  Calls Try.prog 35 #[.slice A0 l0.length c0, .slice A1 l1.length c1] w fun e w' => e = .returned (.bool r) ∧ Below w.heap.size w w' := by
 have hu59 := Try.underlying59
 have HR0 := aA.mk hr0
 have HC0 := aA.mk hc0
 clear hr0 hc0
 have HR1 := aA.mk hr1
 have HC1 := aA.mk hc1
 clear hr1 hc1
 have HB := aA.mk (Below.refl w.heap.size w)
 have H : (if (l0.length : Int) = (l1.length : Int) then (laws_eqNodeS.l0 k l0 l1 0) else (some false)) = some r := h
 clear h
 by_cases c3 : (l0.length : Int) = (l1.length : Int)
 ·rw [if_pos c3] at H
  have c3b0 : ((l0.length : Int) == (l1.length : Int)) = true := beq_iff_eq.mpr c3
  have c3b1 : ((l0.length : Int) != (l1.length : Int)) = false := bne_eq_false_iff_eq.mpr c3
  have c3b2 : (l0.length == l1.length) = true := by first | simpa using c3 | (simp at c3 ⊢; omega)
  clear c3
  have H' := aA.mk H
  clear H
  go_enter Try.func35, Try.ntmps35
  go_wp2
  go_loopg [5] k (fun kq v5 w' => ∃ (x5_1 : Int), v5 = .int .i64 x5_1 ∧ aA (laws_eqNodeS.l0 kq l0 l1 x5_1 = some r) ∧ aA (kq ≤ k) ∧ aA (Below w.heap.size w w'))
  case atStart => exact ⟨(0), (by first | rfl | (simp; done) | (simp [*]; done)), H', ⟨Nat.le_refl _⟩, ⟨by repeat (first | (with_reducible first | exact HB.out | apply aH | apply aC | apply aG) | exact HB.out)⟩⟩
  case round =>
   clear H'
   try clear c1
   try clear p2
   try clear c3
   try clear c3b0
   try clear c3b1
   try clear c3b2
   obtain ⟨x5_1, rfl, HA, HK1, HB⟩ := hrel
   cases gk with
   | zero => exact absurd HA.out (by simp [laws_eqNodeS.l0])
   | succ k1 =>
    have H := HA.out
    clear HA
    simp only [laws_eqNodeS.l0] at H
    by_cases c4 : x5_1 < (l0.length : Int)
    ·rw [if_pos c4] at H
     have c4b0 : decide (x5_1 < (l0.length : Int)) = true := decide_eq_true c4
     clear c4
     by_cases c5 : 0 ≤ x5_1
     ·rw [if_pos c5] at H
      have c5b0 : decide (0 ≤ x5_1) = true := decide_eq_true c5
      clear c5
      by_cases c6 : x5_1 < (l1.length : Int)
      ·rw [if_pos c6] at H
       have c6b0 : decide (x5_1 < (l1.length : Int)) = true := decide_eq_true c6
       clear c6
       replace H := lF H
       obtain ⟨t404, A70, H⟩ := H
       replace H : (if t404 = true then (laws_eqNodeS.l0 k1 l0 l1 (wrap64 (x5_1 + 1))) else (some false)) = some r := H
       have A7 := aA.mk A70
       clear A70
       by_cases c8 : t404 = true
       ·subst c8
        have H1 : (laws_eqNodeS.l0 k1 l0 l1 (wrap64 (x5_1 + 1))) = some r := by rw [if_pos rfl] at H; exact H
        clear H
        have H := H1
        clear H1
        have H' := aA.mk H
        clear H
        try go_wp2
        have n0_ := aA.mk (aG HB.out)
        clear HB
        have HB := n0_
        clear n0_
        have p402 : 0 ≤ (x5_1 : Int) := lE (by first | (with_reducible assumption) | assumption)
        have q402 : x5_1 < (l0.length : Int) := lE (by first | (with_reducible assumption) | assumption)
        obtain ⟨ad402, A402_0, c402_0, e402, hx402_0, hl402_0, hi402_0⟩ := at_T59 HR0.out x5_1 p402 q402
        have hw402_0 := hx402_0
        cases e402
        replace hx402_0 := (HB.out.cell (lD w _ hx402_0)).trans hx402_0
        have HR402_0 := aA.mk hi402_0
        have HC402_0 := aA.mk hl402_0
        clear hi402_0 hl402_0
        replace p402 := eq_true p402
        replace q402 := eq_true q402
        have p403 : 0 ≤ (x5_1 : Int) := lE (by first | (with_reducible assumption) | assumption)
        have q403 : x5_1 < (l1.length : Int) := lE (by first | (with_reducible assumption) | assumption)
        obtain ⟨ad403, A403_0, c403_0, e403, hx403_0, hl403_0, hi403_0⟩ := at_T59 HR1.out x5_1 p403 q403
        have hw403_0 := hx403_0
        cases e403
        replace hx403_0 := (HB.out.cell (lD w _ hx403_0)).trans hx403_0
        have HR403_0 := aA.mk hi403_0
        have HC403_0 := aA.mk hl403_0
        clear hi403_0 hl403_0
        replace p403 := eq_true p403
        replace q403 := eq_true q403
        refine start_ (n := 10) (S := fun w' => w'.cell? (ad402.add (x5_1).toNat) = some (.slice A402_0 ((rd_T59 l0 x5_1).f0).length c402_0) ∧ w'.cell? (ad403.add (x5_1).toNat) = some (.slice A403_0 ((rd_T59 l1 x5_1).f0).length c403_0)) (ds := []) #[false, false, false, false, false, false, false, false, false, false] (by kernel_rfl) rfl rfl ⟨((HB.out.cell (lD w _ hw402_0)).trans hw402_0), ((HB.out.cell (lD w _ hw403_0)).trans hw403_0)⟩ (fun hHeld => ?_); refine with_tabW laws_eqNodeS.tab6 laws_eqNodeS.bits6 (fun HT_ HW_ => ?_)
        generalize wr.drew = w9 at HB HR402_0 HR403_0 hx402_0 hx403_0 hHeld ⊢
        refine bL (i := 0) (N := some 17) (v := ?_) (a' := ?_) #[true, false, false, false, false, false, false, false, false, false] rfl rfl (bQ HT_.out (by kernel_rfl)) (fun _ _ _ h => h) (Or.inl ⟨by rfl, ?_⟩) ?_ ?_
        rotate_left
        ·intro w'
         go_simp
         with_reducible rfl
        rotate_left
        ·simp only [Act.put, lA, lB, lC, bD, bC]
         rfl
        refine bL (i := 1) (N := some 18) (v := ?_) (a' := ?_) #[true, true, false, false, false, false, false, false, false, false] rfl rfl (bQ HT_.out (by kernel_rfl)) (fun _ _ _ h => h) (Or.inl ⟨by rfl, ?_⟩) ?_ ?_
        rotate_left
        ·intro w'
         go_simp
         with_reducible rfl
        rotate_left
        ·simp only [Act.put, lA, lB, lC, bD, bC]
         rfl
        refine bL (i := 2) (N := some 19) (v := ?_) (a' := ?_) #[true, true, true, false, false, false, false, false, false, false] rfl rfl (bQ HT_.out (by kernel_rfl)) (fun _ _ _ h => h) (Or.inl ⟨by rfl, ?_⟩) ?_ ?_
        rotate_left
        ·intro w'
         go_simp
         with_reducible rfl
        rotate_left
        ·simp only [Act.put, lA, lB, lC, bD, bC]
         rfl
        refine bL (i := 4) (N := some 21) (v := ?_) (a' := ?_) #[true, true, true, false, true, false, false, false, false, false] rfl rfl (bQ HT_.out (by kernel_rfl)) (fun _ _ _ h => h) (Or.inl ⟨by rfl, ?_⟩) ?_ ?_
        rotate_left
        ·intro w'
         go_simp
         with_reducible rfl
        rotate_left
        ·simp only [Act.put, lA, lB, lC, bD, bC]
         rfl
        refine bL (i := 5) (N := some 22) (v := ?_) (a' := ?_) #[true, true, true, false, true, true, false, false, false, false] rfl rfl (bQ HT_.out (by kernel_rfl)) (fun _ _ _ h => h) (Or.inl ⟨by rfl, ?_⟩) ?_ ?_
        rotate_left
        ·intro w'
         go_simp
         with_reducible rfl
        rotate_left
        ·simp only [Act.put, lA, lB, lC, bD, bC]
         rfl
        refine bL (i := 6) (N := some 23) (v := ?_) (a' := ?_) #[true, true, true, false, true, true, true, false, false, false] rfl rfl (bQ HT_.out (by kernel_rfl)) (fun _ _ _ h => h) (Or.inl ⟨by rfl, ?_⟩) ?_ ?_
        rotate_left
        ·intro w'
         go_simp
         with_reducible rfl
        rotate_left
        ·simp only [Act.put, lA, lB, lC, bD, bC]
         rfl
        refine take_ (i := 3) (N := some 20) (v := ?_) (a' := ?_) #[true, true, true, true, true, true, true, false, false, false] rfl rfl (take_ofW HT_.out HW_.out (by kernel_rfl)) (fun _ _ _ h => h) (Or.inl ⟨by rfl, ?_⟩) hHeld ?_ ?_
        rotate_left
        ·rintro w' ⟨s0, s1⟩
         go_simp
         with_reducible rfl
        rotate_left
        ·simp only [Act.put, lA, lB, lC, bD, bC]
         rfl
        refine take_ (i := 7) (N := some 24) (v := ?_) (a' := ?_) #[true, true, true, true, true, true, true, true, false, false] rfl rfl (take_ofW HT_.out HW_.out (by kernel_rfl)) (fun _ _ _ h => h) (Or.inl ⟨by rfl, ?_⟩) hHeld ?_ ?_
        rotate_left
        ·rintro w' ⟨s0, s1⟩
         go_simp
         with_reducible rfl
        rotate_left
        ·simp only [Act.put, lA, lB, lC, bD, bC]
         rfl
        refine one_ (i := 8) (N := some 25) #[true, true, true, true, true, true, true, true, true, false] rfl rfl (one_of HT_.out (by kernel_rfl)) (by decide) (fun K hK => ?_)
        refine goes_ Try.func71 (by kernel_rfl) rfl #[.agg #[.slice A402_0 ((rd_T59 l0 x5_1).f0).length c402_0], .agg #[.slice A403_0 ((rd_T59 l1 x5_1).f0).length c403_0]] (by rfl) rfl rfl (by (try simp only [List.map_toArray, List.map_cons, List.map_nil]); first | done | rfl | (simp only [List.length_drop, List.length_take]; rfl)) ?_
        with_reducible refine (laws_eqNode.calls k1 _ _ ((rd_T59 l0 x5_1).f0) _ _ ((rd_T59 l1 x5_1).f0) true _ ?side1 ?side2 ?side3 ?side4 A7.out).mono ?_
        (case side1 => repeat (first | exact (Kd.bJ HR402_0.out HB.out) | (with_reducible refine Kd.bM ?_ _) | (with_reducible refine Kd.bN ?_ _) | (with_reducible refine Kd.bR ?_)))
        (case side2 => exact HC402_0.out)
        (case side3 => repeat (first | exact (Kd.bJ HR403_0.out HB.out) | (with_reducible refine Kd.bM ?_ _) | (with_reducible refine Kd.bN ?_ _) | (with_reducible refine Kd.bR ?_)))
        (case side4 => exact HC403_0.out)
        rintro e w10 ⟨rfl, hb⟩
        refine ⟨_, rfl, ?_⟩
        have n0_ := aA.mk (aU (by repeat (first | (with_reducible first | exact HB.out | apply aH | apply aC | apply aG) | exact HB.out)) hb)
        clear HB
        have HB := n0_
        clear n0_
        (try clear hb)
        (try clear hb2)
        (try clear hk)
        (try clear hi)
        refine hK.out _ _ ⟨((HB.out.cell (lD w _ hw402_0)).trans hw402_0), ((HB.out.cell (lD w _ hw403_0)).trans hw403_0)⟩ (fun hHeld => ?_)
        clear hK K
        refine norm_ (a' := ?_) ?_ ?_
        rotate_left
        ·show Act.put _ (some 25) _ = _
         simp only [Act.put, lA, lB, lC, bD, bC]
         rfl
        refine bL (i := 9) (N := some 26) (v := ?_) (a' := ?_) #[true, true, true, true, true, true, true, true, true, true] rfl rfl (bQ HT_.out (by kernel_rfl)) (fun _ _ _ h => h) (Or.inl ⟨by rfl, ?_⟩) ?_ ?_
        rotate_left
        ·intro w'
         go_simp
         with_reducible rfl
        rotate_left
        ·simp only [Act.put, lA, lB, lC, bD, bC]
         rfl
        refine done_ (done_of HT_.out (by kernel_rfl)) ?_
        try go_wp2
        go_roundg k1
        case measure => have := HK1.out; omega
        case rel => exact ⟨(wrap64 (x5_1 + 1)), (by first | rfl | (simp; done) | (simp [*]; done)), H', ⟨by have := HK1.out; omega⟩, ⟨by repeat (first | (with_reducible first | exact HB.out | apply aH | apply aC | apply aG) | exact HB.out)⟩⟩
       ·replace c8 := Bool.eq_false_iff.mpr c8
        subst c8
        have H1 : (some false) = some r := by rw [if_neg (show ¬ (false = true) by decide)] at H; exact H
        clear H
        have H := H1
        clear H1
        obtain rfl := Option.some.inj H
        try go_wp2
        have n0_ := aA.mk (aG HB.out)
        clear HB
        have HB := n0_
        clear n0_
        have p402 : 0 ≤ (x5_1 : Int) := lE (by first | (with_reducible assumption) | assumption)
        have q402 : x5_1 < (l0.length : Int) := lE (by first | (with_reducible assumption) | assumption)
        obtain ⟨ad402, A402_0, c402_0, e402, hx402_0, hl402_0, hi402_0⟩ := at_T59 HR0.out x5_1 p402 q402
        have hw402_0 := hx402_0
        cases e402
        replace hx402_0 := (HB.out.cell (lD w _ hx402_0)).trans hx402_0
        have HR402_0 := aA.mk hi402_0
        have HC402_0 := aA.mk hl402_0
        clear hi402_0 hl402_0
        replace p402 := eq_true p402
        replace q402 := eq_true q402
        have p403 : 0 ≤ (x5_1 : Int) := lE (by first | (with_reducible assumption) | assumption)
        have q403 : x5_1 < (l1.length : Int) := lE (by first | (with_reducible assumption) | assumption)
        obtain ⟨ad403, A403_0, c403_0, e403, hx403_0, hl403_0, hi403_0⟩ := at_T59 HR1.out x5_1 p403 q403
        have hw403_0 := hx403_0
        cases e403
        replace hx403_0 := (HB.out.cell (lD w _ hx403_0)).trans hx403_0
        have HR403_0 := aA.mk hi403_0
        have HC403_0 := aA.mk hl403_0
        clear hi403_0 hl403_0
        replace p403 := eq_true p403
        replace q403 := eq_true q403
        refine start_ (n := 10) (S := fun w' => w'.cell? (ad402.add (x5_1).toNat) = some (.slice A402_0 ((rd_T59 l0 x5_1).f0).length c402_0) ∧ w'.cell? (ad403.add (x5_1).toNat) = some (.slice A403_0 ((rd_T59 l1 x5_1).f0).length c403_0)) (ds := []) #[false, false, false, false, false, false, false, false, false, false] (by kernel_rfl) rfl rfl ⟨((HB.out.cell (lD w _ hw402_0)).trans hw402_0), ((HB.out.cell (lD w _ hw403_0)).trans hw403_0)⟩ (fun hHeld => ?_); refine with_tabW laws_eqNodeS.tab6 laws_eqNodeS.bits6 (fun HT_ HW_ => ?_)
        generalize wr.drew = w11 at HB HR402_0 HR403_0 hx402_0 hx403_0 hHeld ⊢
        refine bL (i := 0) (N := some 17) (v := ?_) (a' := ?_) #[true, false, false, false, false, false, false, false, false, false] rfl rfl (bQ HT_.out (by kernel_rfl)) (fun _ _ _ h => h) (Or.inl ⟨by rfl, ?_⟩) ?_ ?_
        rotate_left
        ·intro w'
         go_simp
         with_reducible rfl
        rotate_left
        ·simp only [Act.put, lA, lB, lC, bD, bC]
         rfl
        refine bL (i := 1) (N := some 18) (v := ?_) (a' := ?_) #[true, true, false, false, false, false, false, false, false, false] rfl rfl (bQ HT_.out (by kernel_rfl)) (fun _ _ _ h => h) (Or.inl ⟨by rfl, ?_⟩) ?_ ?_
        rotate_left
        ·intro w'
         go_simp
         with_reducible rfl
        rotate_left
        ·simp only [Act.put, lA, lB, lC, bD, bC]
         rfl
        refine bL (i := 2) (N := some 19) (v := ?_) (a' := ?_) #[true, true, true, false, false, false, false, false, false, false] rfl rfl (bQ HT_.out (by kernel_rfl)) (fun _ _ _ h => h) (Or.inl ⟨by rfl, ?_⟩) ?_ ?_
        rotate_left
        ·intro w'
         go_simp
         with_reducible rfl
        rotate_left
        ·simp only [Act.put, lA, lB, lC, bD, bC]
         rfl
        refine bL (i := 4) (N := some 21) (v := ?_) (a' := ?_) #[true, true, true, false, true, false, false, false, false, false] rfl rfl (bQ HT_.out (by kernel_rfl)) (fun _ _ _ h => h) (Or.inl ⟨by rfl, ?_⟩) ?_ ?_
        rotate_left
        ·intro w'
         go_simp
         with_reducible rfl
        rotate_left
        ·simp only [Act.put, lA, lB, lC, bD, bC]
         rfl
        refine bL (i := 5) (N := some 22) (v := ?_) (a' := ?_) #[true, true, true, false, true, true, false, false, false, false] rfl rfl (bQ HT_.out (by kernel_rfl)) (fun _ _ _ h => h) (Or.inl ⟨by rfl, ?_⟩) ?_ ?_
        rotate_left
        ·intro w'
         go_simp
         with_reducible rfl
        rotate_left
        ·simp only [Act.put, lA, lB, lC, bD, bC]
         rfl
        refine bL (i := 6) (N := some 23) (v := ?_) (a' := ?_) #[true, true, true, false, true, true, true, false, false, false] rfl rfl (bQ HT_.out (by kernel_rfl)) (fun _ _ _ h => h) (Or.inl ⟨by rfl, ?_⟩) ?_ ?_
        rotate_left
        ·intro w'
         go_simp
         with_reducible rfl
        rotate_left
        ·simp only [Act.put, lA, lB, lC, bD, bC]
         rfl
        refine take_ (i := 3) (N := some 20) (v := ?_) (a' := ?_) #[true, true, true, true, true, true, true, false, false, false] rfl rfl (take_ofW HT_.out HW_.out (by kernel_rfl)) (fun _ _ _ h => h) (Or.inl ⟨by rfl, ?_⟩) hHeld ?_ ?_
        rotate_left
        ·rintro w' ⟨s0, s1⟩
         go_simp
         with_reducible rfl
        rotate_left
        ·simp only [Act.put, lA, lB, lC, bD, bC]
         rfl
        refine take_ (i := 7) (N := some 24) (v := ?_) (a' := ?_) #[true, true, true, true, true, true, true, true, false, false] rfl rfl (take_ofW HT_.out HW_.out (by kernel_rfl)) (fun _ _ _ h => h) (Or.inl ⟨by rfl, ?_⟩) hHeld ?_ ?_
        rotate_left
        ·rintro w' ⟨s0, s1⟩
         go_simp
         with_reducible rfl
        rotate_left
        ·simp only [Act.put, lA, lB, lC, bD, bC]
         rfl
        refine one_ (i := 8) (N := some 25) #[true, true, true, true, true, true, true, true, true, false] rfl rfl (one_of HT_.out (by kernel_rfl)) (by decide) (fun K hK => ?_)
        refine goes_ Try.func71 (by kernel_rfl) rfl #[.agg #[.slice A402_0 ((rd_T59 l0 x5_1).f0).length c402_0], .agg #[.slice A403_0 ((rd_T59 l1 x5_1).f0).length c403_0]] (by rfl) rfl rfl (by (try simp only [List.map_toArray, List.map_cons, List.map_nil]); first | done | rfl | (simp only [List.length_drop, List.length_take]; rfl)) ?_
        with_reducible refine (laws_eqNode.calls k1 _ _ ((rd_T59 l0 x5_1).f0) _ _ ((rd_T59 l1 x5_1).f0) false _ ?side1 ?side2 ?side3 ?side4 A7.out).mono ?_
        (case side1 => repeat (first | exact (Kd.bJ HR402_0.out HB.out) | (with_reducible refine Kd.bM ?_ _) | (with_reducible refine Kd.bN ?_ _) | (with_reducible refine Kd.bR ?_)))
        (case side2 => exact HC402_0.out)
        (case side3 => repeat (first | exact (Kd.bJ HR403_0.out HB.out) | (with_reducible refine Kd.bM ?_ _) | (with_reducible refine Kd.bN ?_ _) | (with_reducible refine Kd.bR ?_)))
        (case side4 => exact HC403_0.out)
        rintro e w12 ⟨rfl, hb⟩
        refine ⟨_, rfl, ?_⟩
        have n0_ := aA.mk (aU (by repeat (first | (with_reducible first | exact HB.out | apply aH | apply aC | apply aG) | exact HB.out)) hb)
        clear HB
        have HB := n0_
        clear n0_
        (try clear hb)
        (try clear hb2)
        (try clear hk)
        (try clear hi)
        refine hK.out _ _ ⟨((HB.out.cell (lD w _ hw402_0)).trans hw402_0), ((HB.out.cell (lD w _ hw403_0)).trans hw403_0)⟩ (fun hHeld => ?_)
        clear hK K
        refine norm_ (a' := ?_) ?_ ?_
        rotate_left
        ·show Act.put _ (some 25) _ = _
         simp only [Act.put, lA, lB, lC, bD, bC]
         rfl
        refine bL (i := 9) (N := some 26) (v := ?_) (a' := ?_) #[true, true, true, true, true, true, true, true, true, true] rfl rfl (bQ HT_.out (by kernel_rfl)) (fun _ _ _ h => h) (Or.inl ⟨by rfl, ?_⟩) ?_ ?_
        rotate_left
        ·intro w'
         go_simp
         with_reducible rfl
        rotate_left
        ·simp only [Act.put, lA, lB, lC, bD, bC]
         rfl
        refine done_ (done_of HT_.out (by kernel_rfl)) ?_
        try go_wp2
        go_ret
        exact ⟨by first | rfl | (simp [errW_none, errW_some] <;> rfl) | (simp [*, errW_none, errW_some] <;> rfl), by repeat (first | (with_reducible first | exact HB.out | apply aH | apply aC | apply aG) | exact HB.out)⟩
      ·rw [if_neg c6] at H
       exact absurd H (by simp)
     ·rw [if_neg c5] at H
      exact absurd H (by simp)
    ·rw [if_neg c4] at H
     have c4b0 : decide (x5_1 < (l0.length : Int)) = false := decide_eq_false c4
     clear c4
     obtain rfl := Option.some.inj H
     go_wp2
     go_ret
     exact ⟨by first | rfl | (simp [errW_none, errW_some] <;> rfl) | (simp [*, errW_none, errW_some] <;> rfl), by repeat (first | (with_reducible first | exact HB.out | apply aH | apply aC | apply aG) | exact HB.out)⟩
 ·rw [if_neg c3] at H
  have c3b0 : ((l0.length : Int) == (l1.length : Int)) = false := beq_eq_false_iff_ne.mpr c3
  have c3b1 : ((l0.length : Int) != (l1.length : Int)) = true := bne_iff_ne.mpr c3
  have c3b2 : (l0.length == l1.length) = false := by first | simpa using c3 | (simp at c3 ⊢; omega)
  obtain rfl := Option.some.inj H
  go_enter Try.func35, Try.ntmps35
  go_wp2
  go_ret
  exact ⟨by first | rfl | (simp [errW_none, errW_some] <;> rfl) | (simp [*, errW_none, errW_some] <;> rfl), by repeat (first | (with_reducible first | exact HB.out | apply aH | apply aC | apply aG) | exact HB.out)⟩
def laws_eqTree.f (k : Nat) (l0_0 : List Int) (l0_1 : List (S59)) (l1_0 : List Int) (l1_1 : List (S59)) : Option (Bool) := (laws_eqIntS.f k l0_0 l1_0).bind fun t407 => (if t407 = true then ((laws_eqNodeS.f k l0_1 l1_1).bind fun t408 => (if t408 = true then (some true) else (some false))) else (some false))
set_option maxHeartbeats 8000000 in
set_option maxRecDepth 100000 in
theorem laws_eqTree.calls (k : Nat) (A0_0 : Option Addr) (c0_0 : Nat) (l0_0 : List Int) (A0_1 : Option Addr) (c0_1 : Nat) (l0_1 : List (S59)) (A1_0 : Option Addr) (c1_0 : Nat) (l1_0 : List Int) (A1_1 : Option Addr) (c1_1 : Nat) (l1_1 : List (S59)) (r : Bool) (w : World) (hr0_0 : Kd.C (Kd.int .i64) w A0_0 l0_0.length l0_0) (hc0_0 : l0_0.length ≤ c0_0) (hr0_1 : Kd.C k59 w A0_1 l0_1.length l0_1) (hc0_1 : l0_1.length ≤ c0_1) (hr1_0 : Kd.C (Kd.int .i64) w A1_0 l1_0.length l1_0) (hc1_0 : l1_0.length ≤ c1_0) (hr1_1 : Kd.C k59 w A1_1 l1_1.length l1_1) (hc1_1 : l1_1.length ≤ c1_1) (h : laws_eqTree.f k l0_0 l0_1 l1_0 l1_1 = some r) :
  Calls Try.prog 10 #[.agg #[.slice A0_0 l0_0.length c0_0, .slice A0_1 l0_1.length c0_1], .agg #[.slice A1_0 l1_0.length c1_0, .slice A1_1 l1_1.length c1_1]] w fun e w' => e = .returned (.bool r) ∧ Below w.heap.size w w' := by
 have hu29 := Try.underlying29
 have HR0_0 := aA.mk hr0_0
 have HC0_0 := aA.mk hc0_0
 clear hr0_0 hc0_0
 have HR0_1 := aA.mk hr0_1
 have HC0_1 := aA.mk hc0_1
 clear hr0_1 hc0_1
 have HR1_0 := aA.mk hr1_0
 have HC1_0 := aA.mk hc1_0
 clear hr1_0 hc1_0
 have HR1_1 := aA.mk hr1_1
 have HC1_1 := aA.mk hc1_1
 clear hr1_1 hc1_1
 have HB := aA.mk (Below.refl w.heap.size w)
 have H : ((laws_eqIntS.f k l0_0 l1_0).bind fun t407 => (if t407 = true then ((laws_eqNodeS.f k l0_1 l1_1).bind fun t408 => (if t408 = true then (some true) else (some false))) else (some false))) = some r := h
 clear h
 replace H := lF H
 obtain ⟨t407, A30, H⟩ := H
 replace H : (if t407 = true then ((laws_eqNodeS.f k l0_1 l1_1).bind fun t408 => (if t408 = true then (some true) else (some false))) else (some false)) = some r := H
 have A3 := aA.mk A30
 clear A30
 by_cases c4 : t407 = true
 ·subst c4
  have H1 : ((laws_eqNodeS.f k l0_1 l1_1).bind fun t408 => (if t408 = true then (some true) else (some false))) = some r := by rw [if_pos rfl] at H; exact H
  clear H
  have H := H1
  clear H1
  replace H := lF H
  obtain ⟨t408, A50, H⟩ := H
  replace H : (if t408 = true then (some true) else (some false)) = some r := H
  have A5 := aA.mk A50
  clear A50
  by_cases c6 : t408 = true
  ·subst c6
   have H1 : (some true) = some r := by rw [if_pos rfl] at H; exact H
   clear H
   have H := H1
   clear H1
   obtain rfl := Option.some.inj H
   go_enter Try.func10, Try.ntmps10
   go_wp2_with (first | ((with_reducible refine aW (N := 2) rfl ?_); refine aX ?hg (N := 2) ?hd (cs := #[.slice A0_0 l0_0.length c0_0, .slice A0_1 l0_1.length c0_1]) (t := 29) ?hr ?_; (case hd => rfl); (case hg => rfl); (case hr => first | (go_simp; done) | (go_simp; rfl)); intro gb405 hg w7 hbox hb; have n0_ := aA.mk (aU (by repeat (first | (with_reducible first | exact HB.out | apply aH | apply aC | apply aG) | exact HB.out)) hb); have n1_ := aA.mk (hbox); have n2_ := aA.mk ((by rw [hg]; exact (aT (by repeat (first | (with_reducible first | exact HB.out | apply aH | apply aC | apply aG) | exact HB.out))) : w.heap.size ≤ gb405)); have n3_ := aA.mk ((by rw [hg]; exact (aT (by repeat (first | (with_reducible first | exact HB.out | apply aH | apply aC | apply aG) | exact HB.out))) : w.heap.size ≤ gb405)); clear HB; have HB := n0_; have BK405 := n1_; have GW405 := n2_; have GE405 := n3_; clear n0_ n1_ n2_ n3_; clear hb hbox hg) | ((with_reducible refine aW (N := 3) rfl ?_); refine aX ?hg (N := 3) ?hd (cs := #[.slice A1_0 l1_0.length c1_0, .slice A1_1 l1_1.length c1_1]) (t := 29) ?hr ?_; (case hd => rfl); (case hg => rfl); (case hr => first | (go_simp; done) | (go_simp; rfl)); intro gb406 hg w8 hbox hb; have n0_ := aA.mk (aV (g := gb405) (o := .cells #[.slice A0_0 l0_0.length c0_0, .slice A0_1 l0_1.length c0_1] 29 (0, 0)) (by (with_reducible repeat (first | refine aN ?_ _ | refine aQ ?_ | refine aM ?_ _)); exact BK405.out) hb); have n1_ := aA.mk (aU (by repeat (first | (with_reducible first | exact HB.out | apply aH | apply aC | apply aG | refine aJ ?_ GE405.out) | exact HB.out)) hb); have n2_ := aA.mk (hbox); have n3_ := aA.mk ((by rw [hg]; exact (aT (by repeat (first | (with_reducible first | exact HB.out | apply aH | apply aC | apply aG | refine aJ ?_ GE405.out) | exact HB.out))) : w.heap.size ≤ gb406)); have n4_ := aA.mk ((by rw [hg]; exact (aT (by repeat (first | (with_reducible first | exact HB.out | apply aH | apply aC | apply aG | refine aJ ?_ GE405.out) | exact HB.out))) : w.heap.size ≤ gb406)); have n5_ := aA.mk ((by rw [hg]; exact Nat.ne_of_lt (bF (g := gb405) (o := .cells #[.slice A0_0 l0_0.length c0_0, .slice A0_1 l0_1.length c0_1] 29 (0, 0)) (by (with_reducible repeat (first | refine aN ?_ _ | refine aQ ?_ | refine aM ?_ _)); exact BK405.out)) : gb405 ≠ gb406)); have n6_ := aA.mk ((by rw [hg]; exact Nat.ne_of_gt (bF (g := gb405) (o := .cells #[.slice A0_0 l0_0.length c0_0, .slice A0_1 l0_1.length c0_1] 29 (0, 0)) (by (with_reducible repeat (first | refine aN ?_ _ | refine aQ ?_ | refine aM ?_ _)); exact BK405.out)) : gb406 ≠ gb405)); clear BK405; clear HB; have BK405 := n0_; have HB := n1_; have BK406 := n2_; have GW406 := n3_; have GE406 := n4_; have NB405_406 := n5_; have NB406_405 := n6_; clear n0_ n1_ n2_ n3_ n4_ n5_ n6_; clear hb hbox hg; have hnb9 := NB405_406.out; have hnc9 := NB406_405.out; have hcz10_0 : w8.cell? ⟨gb405, 0, none⟩ = some (.slice A0_0 l0_0.length c0_0) := (aE BK405.out 0).trans rfl; have hcz10_1 : w8.cell? ⟨gb405, 1, none⟩ = some (.slice A0_1 l0_1.length c0_1) := (aE BK405.out 1).trans rfl; have hfz10_0 := aD BK405.out 0; have hfz10_1 := aD BK405.out 1; have hcz11_0 : w8.cell? ⟨gb406, 0, none⟩ = some (.slice A1_0 l1_0.length c1_0) := (aE BK406.out 0).trans rfl; have hcz11_1 : w8.cell? ⟨gb406, 1, none⟩ = some (.slice A1_1 l1_1.length c1_1) := (aE BK406.out 1).trans rfl; have hfz11_0 := aD BK406.out 0; have hfz11_1 := aD BK406.out 1) | ((with_reducible refine bB (f := 34) rfl ?_); refine bP (some 9) rfl rfl Try.func34 (by kernel_rfl) rfl #[.slice A0_0 l0_0.length c0_0, .slice A1_0 l1_0.length c1_0] rfl (by (try simp only [List.map_toArray, List.map_cons, List.map_nil]); first | done | rfl | (simp only [List.length_drop, List.length_take]; rfl)) ?_; (with_reducible refine (laws_eqIntS.calls k _ _ l0_0 _ _ l1_0 true _ ?side1 ?side2 ?side3 ?side4 A3.out).mono ?_); (case side1 => repeat (first | exact (Kd.bJ HR0_0.out HB.out) | (with_reducible refine Kd.bM ?_ _) | (with_reducible refine Kd.bN ?_ _) | (with_reducible refine Kd.bR ?_))); (case side2 => exact HC0_0.out); (case side3 => repeat (first | exact (Kd.bJ HR1_0.out HB.out) | (with_reducible refine Kd.bM ?_ _) | (with_reducible refine Kd.bN ?_ _) | (with_reducible refine Kd.bR ?_))); (case side4 => exact HC1_0.out); rintro e w' ⟨rfl, ⟨nd, rfl⟩⟩; refine ⟨_, rfl, ?_⟩) | ((with_reducible refine bB (f := 35) rfl ?_); refine bP (some 15) rfl rfl Try.func35 (by kernel_rfl) rfl #[.slice A0_1 l0_1.length c0_1, .slice A1_1 l1_1.length c1_1] rfl (by (try simp only [List.map_toArray, List.map_cons, List.map_nil]); first | done | rfl | (simp only [List.length_drop, List.length_take]; rfl)) ?_; (with_reducible refine (laws_eqNodeS.calls k _ _ l0_1 _ _ l1_1 true _ ?side1 ?side2 ?side3 ?side4 A5.out).mono ?_); (case side1 => repeat (first | exact (Kd.bJ HR0_1.out (by repeat (first | (with_reducible first | exact HB.out | apply aH | apply aC | apply aG | refine aJ ?_ GE405.out | refine aJ ?_ GE406.out) | exact HB.out))) | (with_reducible refine Kd.bM ?_ _) | (with_reducible refine Kd.bN ?_ _) | (with_reducible refine Kd.bR ?_))); (case side2 => exact HC0_1.out); (case side3 => repeat (first | exact (Kd.bJ HR1_1.out (by repeat (first | (with_reducible first | exact HB.out | apply aH | apply aC | apply aG | refine aJ ?_ GE405.out | refine aJ ?_ GE406.out) | exact HB.out))) | (with_reducible refine Kd.bM ?_ _) | (with_reducible refine Kd.bN ?_ _) | (with_reducible refine Kd.bR ?_))); (case side4 => exact HC1_1.out); rintro e w12 ⟨rfl, hb⟩; refine ⟨_, rfl, ?_⟩; have n0_ := aA.mk (aV (g := gb405) (o := .cells #[.slice A0_0 l0_0.length c0_0, .slice A0_1 l0_1.length c0_1] 29 (0, 0)) (by (with_reducible repeat (first | refine aN ?_ _ | refine aQ ?_ | refine aM ?_ _)); exact BK405.out) hb); have n1_ := aA.mk (aV (g := gb406) (o := .cells #[.slice A1_0 l1_0.length c1_0, .slice A1_1 l1_1.length c1_1] 29 (0, 0)) (by (with_reducible repeat (first | refine aN ?_ _ | refine aQ ?_ | refine aM ?_ _)); exact BK406.out) hb); have n2_ := aA.mk (aU (by repeat (first | (with_reducible first | exact HB.out | apply aH | apply aC | apply aG | refine aJ ?_ GE405.out | refine aJ ?_ GE406.out) | exact HB.out)) hb); clear BK405; clear BK406; clear HB; have BK405 := n0_; have BK406 := n1_; have HB := n2_; clear n0_ n1_ n2_; (try clear hb)))
   go_ret
   exact ⟨by first | rfl | (simp [errW_none, errW_some] <;> rfl) | (simp [*, errW_none, errW_some] <;> rfl), by repeat (first | (with_reducible first | exact HB.out | apply aH | apply aC | apply aG | refine aJ ?_ GE405.out | refine aJ ?_ GE406.out) | exact HB.out)⟩
  ·replace c6 := Bool.eq_false_iff.mpr c6
   subst c6
   have H1 : (some false) = some r := by rw [if_neg (show ¬ (false = true) by decide)] at H; exact H
   clear H
   have H := H1
   clear H1
   obtain rfl := Option.some.inj H
   go_enter Try.func10, Try.ntmps10
   go_wp2_with (first | ((with_reducible refine aW (N := 2) rfl ?_); refine aX ?hg (N := 2) ?hd (cs := #[.slice A0_0 l0_0.length c0_0, .slice A0_1 l0_1.length c0_1]) (t := 29) ?hr ?_; (case hd => rfl); (case hg => rfl); (case hr => first | (go_simp; done) | (go_simp; rfl)); intro gb405 hg w13 hbox hb; have n0_ := aA.mk (aU (by repeat (first | (with_reducible first | exact HB.out | apply aH | apply aC | apply aG) | exact HB.out)) hb); have n1_ := aA.mk (hbox); have n2_ := aA.mk ((by rw [hg]; exact (aT (by repeat (first | (with_reducible first | exact HB.out | apply aH | apply aC | apply aG) | exact HB.out))) : w.heap.size ≤ gb405)); have n3_ := aA.mk ((by rw [hg]; exact (aT (by repeat (first | (with_reducible first | exact HB.out | apply aH | apply aC | apply aG) | exact HB.out))) : w.heap.size ≤ gb405)); clear HB; have HB := n0_; have BK405 := n1_; have GW405 := n2_; have GE405 := n3_; clear n0_ n1_ n2_ n3_; clear hb hbox hg) | ((with_reducible refine aW (N := 3) rfl ?_); refine aX ?hg (N := 3) ?hd (cs := #[.slice A1_0 l1_0.length c1_0, .slice A1_1 l1_1.length c1_1]) (t := 29) ?hr ?_; (case hd => rfl); (case hg => rfl); (case hr => first | (go_simp; done) | (go_simp; rfl)); intro gb406 hg w14 hbox hb; have n0_ := aA.mk (aV (g := gb405) (o := .cells #[.slice A0_0 l0_0.length c0_0, .slice A0_1 l0_1.length c0_1] 29 (0, 0)) (by (with_reducible repeat (first | refine aN ?_ _ | refine aQ ?_ | refine aM ?_ _)); exact BK405.out) hb); have n1_ := aA.mk (aU (by repeat (first | (with_reducible first | exact HB.out | apply aH | apply aC | apply aG | refine aJ ?_ GE405.out) | exact HB.out)) hb); have n2_ := aA.mk (hbox); have n3_ := aA.mk ((by rw [hg]; exact (aT (by repeat (first | (with_reducible first | exact HB.out | apply aH | apply aC | apply aG | refine aJ ?_ GE405.out) | exact HB.out))) : w.heap.size ≤ gb406)); have n4_ := aA.mk ((by rw [hg]; exact (aT (by repeat (first | (with_reducible first | exact HB.out | apply aH | apply aC | apply aG | refine aJ ?_ GE405.out) | exact HB.out))) : w.heap.size ≤ gb406)); have n5_ := aA.mk ((by rw [hg]; exact Nat.ne_of_lt (bF (g := gb405) (o := .cells #[.slice A0_0 l0_0.length c0_0, .slice A0_1 l0_1.length c0_1] 29 (0, 0)) (by (with_reducible repeat (first | refine aN ?_ _ | refine aQ ?_ | refine aM ?_ _)); exact BK405.out)) : gb405 ≠ gb406)); have n6_ := aA.mk ((by rw [hg]; exact Nat.ne_of_gt (bF (g := gb405) (o := .cells #[.slice A0_0 l0_0.length c0_0, .slice A0_1 l0_1.length c0_1] 29 (0, 0)) (by (with_reducible repeat (first | refine aN ?_ _ | refine aQ ?_ | refine aM ?_ _)); exact BK405.out)) : gb406 ≠ gb405)); clear BK405; clear HB; have BK405 := n0_; have HB := n1_; have BK406 := n2_; have GW406 := n3_; have GE406 := n4_; have NB405_406 := n5_; have NB406_405 := n6_; clear n0_ n1_ n2_ n3_ n4_ n5_ n6_; clear hb hbox hg; have hnb15 := NB405_406.out; have hnc15 := NB406_405.out; have hcz16_0 : w14.cell? ⟨gb405, 0, none⟩ = some (.slice A0_0 l0_0.length c0_0) := (aE BK405.out 0).trans rfl; have hcz16_1 : w14.cell? ⟨gb405, 1, none⟩ = some (.slice A0_1 l0_1.length c0_1) := (aE BK405.out 1).trans rfl; have hfz16_0 := aD BK405.out 0; have hfz16_1 := aD BK405.out 1; have hcz17_0 : w14.cell? ⟨gb406, 0, none⟩ = some (.slice A1_0 l1_0.length c1_0) := (aE BK406.out 0).trans rfl; have hcz17_1 : w14.cell? ⟨gb406, 1, none⟩ = some (.slice A1_1 l1_1.length c1_1) := (aE BK406.out 1).trans rfl; have hfz17_0 := aD BK406.out 0; have hfz17_1 := aD BK406.out 1) | ((with_reducible refine bB (f := 34) rfl ?_); refine bP (some 9) rfl rfl Try.func34 (by kernel_rfl) rfl #[.slice A0_0 l0_0.length c0_0, .slice A1_0 l1_0.length c1_0] rfl (by (try simp only [List.map_toArray, List.map_cons, List.map_nil]); first | done | rfl | (simp only [List.length_drop, List.length_take]; rfl)) ?_; (with_reducible refine (laws_eqIntS.calls k _ _ l0_0 _ _ l1_0 true _ ?side1 ?side2 ?side3 ?side4 A3.out).mono ?_); (case side1 => repeat (first | exact (Kd.bJ HR0_0.out HB.out) | (with_reducible refine Kd.bM ?_ _) | (with_reducible refine Kd.bN ?_ _) | (with_reducible refine Kd.bR ?_))); (case side2 => exact HC0_0.out); (case side3 => repeat (first | exact (Kd.bJ HR1_0.out HB.out) | (with_reducible refine Kd.bM ?_ _) | (with_reducible refine Kd.bN ?_ _) | (with_reducible refine Kd.bR ?_))); (case side4 => exact HC1_0.out); rintro e w' ⟨rfl, ⟨nd, rfl⟩⟩; refine ⟨_, rfl, ?_⟩) | ((with_reducible refine bB (f := 35) rfl ?_); refine bP (some 15) rfl rfl Try.func35 (by kernel_rfl) rfl #[.slice A0_1 l0_1.length c0_1, .slice A1_1 l1_1.length c1_1] rfl (by (try simp only [List.map_toArray, List.map_cons, List.map_nil]); first | done | rfl | (simp only [List.length_drop, List.length_take]; rfl)) ?_; (with_reducible refine (laws_eqNodeS.calls k _ _ l0_1 _ _ l1_1 false _ ?side1 ?side2 ?side3 ?side4 A5.out).mono ?_); (case side1 => repeat (first | exact (Kd.bJ HR0_1.out (by repeat (first | (with_reducible first | exact HB.out | apply aH | apply aC | apply aG | refine aJ ?_ GE405.out | refine aJ ?_ GE406.out) | exact HB.out))) | (with_reducible refine Kd.bM ?_ _) | (with_reducible refine Kd.bN ?_ _) | (with_reducible refine Kd.bR ?_))); (case side2 => exact HC0_1.out); (case side3 => repeat (first | exact (Kd.bJ HR1_1.out (by repeat (first | (with_reducible first | exact HB.out | apply aH | apply aC | apply aG | refine aJ ?_ GE405.out | refine aJ ?_ GE406.out) | exact HB.out))) | (with_reducible refine Kd.bM ?_ _) | (with_reducible refine Kd.bN ?_ _) | (with_reducible refine Kd.bR ?_))); (case side4 => exact HC1_1.out); rintro e w18 ⟨rfl, hb⟩; refine ⟨_, rfl, ?_⟩; have n0_ := aA.mk (aV (g := gb405) (o := .cells #[.slice A0_0 l0_0.length c0_0, .slice A0_1 l0_1.length c0_1] 29 (0, 0)) (by (with_reducible repeat (first | refine aN ?_ _ | refine aQ ?_ | refine aM ?_ _)); exact BK405.out) hb); have n1_ := aA.mk (aV (g := gb406) (o := .cells #[.slice A1_0 l1_0.length c1_0, .slice A1_1 l1_1.length c1_1] 29 (0, 0)) (by (with_reducible repeat (first | refine aN ?_ _ | refine aQ ?_ | refine aM ?_ _)); exact BK406.out) hb); have n2_ := aA.mk (aU (by repeat (first | (with_reducible first | exact HB.out | apply aH | apply aC | apply aG | refine aJ ?_ GE405.out | refine aJ ?_ GE406.out) | exact HB.out)) hb); clear BK405; clear BK406; clear HB; have BK405 := n0_; have BK406 := n1_; have HB := n2_; clear n0_ n1_ n2_; (try clear hb)))
   go_ret
   exact ⟨by first | rfl | (simp [errW_none, errW_some] <;> rfl) | (simp [*, errW_none, errW_some] <;> rfl), by repeat (first | (with_reducible first | exact HB.out | apply aH | apply aC | apply aG | refine aJ ?_ GE405.out | refine aJ ?_ GE406.out) | exact HB.out)⟩
 ·replace c4 := Bool.eq_false_iff.mpr c4
  subst c4
  have H1 : (some false) = some r := by rw [if_neg (show ¬ (false = true) by decide)] at H; exact H
  clear H
  have H := H1
  clear H1
  obtain rfl := Option.some.inj H
  go_enter Try.func10, Try.ntmps10
  go_wp2_with (first | ((with_reducible refine aW (N := 2) rfl ?_); refine aX ?hg (N := 2) ?hd (cs := #[.slice A0_0 l0_0.length c0_0, .slice A0_1 l0_1.length c0_1]) (t := 29) ?hr ?_; (case hd => rfl); (case hg => rfl); (case hr => first | (go_simp; done) | (go_simp; rfl)); intro gb405 hg w19 hbox hb; have n0_ := aA.mk (aU (by repeat (first | (with_reducible first | exact HB.out | apply aH | apply aC | apply aG) | exact HB.out)) hb); have n1_ := aA.mk (hbox); have n2_ := aA.mk ((by rw [hg]; exact (aT (by repeat (first | (with_reducible first | exact HB.out | apply aH | apply aC | apply aG) | exact HB.out))) : w.heap.size ≤ gb405)); have n3_ := aA.mk ((by rw [hg]; exact (aT (by repeat (first | (with_reducible first | exact HB.out | apply aH | apply aC | apply aG) | exact HB.out))) : w.heap.size ≤ gb405)); clear HB; have HB := n0_; have BK405 := n1_; have GW405 := n2_; have GE405 := n3_; clear n0_ n1_ n2_ n3_; clear hb hbox hg) | ((with_reducible refine aW (N := 3) rfl ?_); refine aX ?hg (N := 3) ?hd (cs := #[.slice A1_0 l1_0.length c1_0, .slice A1_1 l1_1.length c1_1]) (t := 29) ?hr ?_; (case hd => rfl); (case hg => rfl); (case hr => first | (go_simp; done) | (go_simp; rfl)); intro gb406 hg w20 hbox hb; have n0_ := aA.mk (aV (g := gb405) (o := .cells #[.slice A0_0 l0_0.length c0_0, .slice A0_1 l0_1.length c0_1] 29 (0, 0)) (by (with_reducible repeat (first | refine aN ?_ _ | refine aQ ?_ | refine aM ?_ _)); exact BK405.out) hb); have n1_ := aA.mk (aU (by repeat (first | (with_reducible first | exact HB.out | apply aH | apply aC | apply aG | refine aJ ?_ GE405.out) | exact HB.out)) hb); have n2_ := aA.mk (hbox); have n3_ := aA.mk ((by rw [hg]; exact (aT (by repeat (first | (with_reducible first | exact HB.out | apply aH | apply aC | apply aG | refine aJ ?_ GE405.out) | exact HB.out))) : w.heap.size ≤ gb406)); have n4_ := aA.mk ((by rw [hg]; exact (aT (by repeat (first | (with_reducible first | exact HB.out | apply aH | apply aC | apply aG | refine aJ ?_ GE405.out) | exact HB.out))) : w.heap.size ≤ gb406)); have n5_ := aA.mk ((by rw [hg]; exact Nat.ne_of_lt (bF (g := gb405) (o := .cells #[.slice A0_0 l0_0.length c0_0, .slice A0_1 l0_1.length c0_1] 29 (0, 0)) (by (with_reducible repeat (first | refine aN ?_ _ | refine aQ ?_ | refine aM ?_ _)); exact BK405.out)) : gb405 ≠ gb406)); have n6_ := aA.mk ((by rw [hg]; exact Nat.ne_of_gt (bF (g := gb405) (o := .cells #[.slice A0_0 l0_0.length c0_0, .slice A0_1 l0_1.length c0_1] 29 (0, 0)) (by (with_reducible repeat (first | refine aN ?_ _ | refine aQ ?_ | refine aM ?_ _)); exact BK405.out)) : gb406 ≠ gb405)); clear BK405; clear HB; have BK405 := n0_; have HB := n1_; have BK406 := n2_; have GW406 := n3_; have GE406 := n4_; have NB405_406 := n5_; have NB406_405 := n6_; clear n0_ n1_ n2_ n3_ n4_ n5_ n6_; clear hb hbox hg; have hnb21 := NB405_406.out; have hnc21 := NB406_405.out; have hcz22_0 : w20.cell? ⟨gb405, 0, none⟩ = some (.slice A0_0 l0_0.length c0_0) := (aE BK405.out 0).trans rfl; have hcz22_1 : w20.cell? ⟨gb405, 1, none⟩ = some (.slice A0_1 l0_1.length c0_1) := (aE BK405.out 1).trans rfl; have hfz22_0 := aD BK405.out 0; have hfz22_1 := aD BK405.out 1; have hcz23_0 : w20.cell? ⟨gb406, 0, none⟩ = some (.slice A1_0 l1_0.length c1_0) := (aE BK406.out 0).trans rfl; have hcz23_1 : w20.cell? ⟨gb406, 1, none⟩ = some (.slice A1_1 l1_1.length c1_1) := (aE BK406.out 1).trans rfl; have hfz23_0 := aD BK406.out 0; have hfz23_1 := aD BK406.out 1) | ((with_reducible refine bB (f := 34) rfl ?_); refine bP (some 9) rfl rfl Try.func34 (by kernel_rfl) rfl #[.slice A0_0 l0_0.length c0_0, .slice A1_0 l1_0.length c1_0] rfl (by (try simp only [List.map_toArray, List.map_cons, List.map_nil]); first | done | rfl | (simp only [List.length_drop, List.length_take]; rfl)) ?_; (with_reducible refine (laws_eqIntS.calls k _ _ l0_0 _ _ l1_0 false _ ?side1 ?side2 ?side3 ?side4 A3.out).mono ?_); (case side1 => repeat (first | exact (Kd.bJ HR0_0.out HB.out) | (with_reducible refine Kd.bM ?_ _) | (with_reducible refine Kd.bN ?_ _) | (with_reducible refine Kd.bR ?_))); (case side2 => exact HC0_0.out); (case side3 => repeat (first | exact (Kd.bJ HR1_0.out HB.out) | (with_reducible refine Kd.bM ?_ _) | (with_reducible refine Kd.bN ?_ _) | (with_reducible refine Kd.bR ?_))); (case side4 => exact HC1_0.out); rintro e w' ⟨rfl, ⟨nd, rfl⟩⟩; refine ⟨_, rfl, ?_⟩))
  go_ret
  exact ⟨by first | rfl | (simp [errW_none, errW_some] <;> rfl) | (simp [*, errW_none, errW_some] <;> rfl), by repeat (first | (with_reducible first | exact HB.out | apply aH | apply aC | apply aG | refine aJ ?_ GE405.out | refine aJ ?_ GE406.out) | exact HB.out)⟩
def laws_markIntS.l0 : Nat → List Int → Int → Int → Option (Int × List Int)
 | 0, _, _, _ => none
 | k + 1, x0, x1, x5 => if x5 < (x0.length : Int) then (if 0 ≤ x5 then (laws_markIntS.l0 k (x0.set (x5 : Int).toNat x1) (wrap64 (x1 + 1)) (wrap64 (x5 + 1))) else (none)) else (some (x1, x0))
def laws_markIntS.f (k : Nat) (l0 : List Int) (a1 : Int) : Option (Int × List Int) := laws_markIntS.l0 k l0 a1 0
set_option maxHeartbeats 8000000 in
set_option maxRecDepth 100000 in
theorem laws_markIntS.calls (k : Nat) (P0_ : Nat → Prop) (u9000_ : Value) (l0 : List Int) (a1 : Int) (r1 : Int) (r2 : List Int) (w0 w : World) (hB : Below w0.heap.size w0 w) (ho0 : Kd.R (Kd.int .i64) 3 w w0.heap.size P0_ u9000_ l0) (h : laws_markIntS.f k l0 a1 = some (r1, r2)) :
  Calls Try.prog 36 #[u9000_, .int .i64 a1] w fun e w' => e = .returned (.int .i64 r1) ∧ Kd.R (Kd.int .i64) 3 w' w0.heap.size (fun k_ => (P0_ k_ ∨ w.heap.size ≤ k_)) u9000_ r2 ∧ Below w0.heap.size w0 w' ∧ Kept w w' (fun k_ => P0_ k_) := by
 have HO0 := aA.mk (show Kd.R (Kd.int .i64) 3 w w0.heap.size (fun k_ => (P0_ k_ ∨ w.heap.size ≤ k_)) u9000_ l0 from Kd.bK ho0 (fun k_ hk => (.inl hk)))
 have HK := aA.mk (Kept.refl w (fun k_ => P0_ k_))
 have HW0 := aA.mk hB.size
 have HB := aA.mk hB
 clear hB
 have H : (laws_markIntS.l0 k l0 a1 0) = some (r1, r2) := h
 clear h
 have H' := aA.mk H
 clear H
 go_enter Try.func36, Try.ntmps36
 go_wp2
 go_loopg [1, 5] k (fun kq v1 v5 w' => ∃ (x0_1 : List Int) (x1_1 : Int) (x5_1 : Int), v1 = .int .i64 x1_1 ∧ v5 = .int .i64 x5_1 ∧ aA (laws_markIntS.l0 kq x0_1 x1_1 x5_1 = some (r1, r2)) ∧ aA (kq ≤ k) ∧ aA (Kd.R (Kd.int .i64) 3 w' w0.heap.size (fun k_ => (P0_ k_ ∨ w.heap.size ≤ k_)) u9000_ x0_1) ∧ aA (Kept w w' (fun k_ => P0_ k_)) ∧ aA (Below w0.heap.size w0 w'))
 case atStart => exact ⟨(l0), (a1), (0), (by first | rfl | (simp; done) | (simp [*]; done)), (by first | rfl | (simp; done) | (simp [*]; done)), H', ⟨Nat.le_refl _⟩, ⟨by (with_reducible repeat (first | apply Kd.aY | apply Kd.aZ | apply Kd.bA)); exact HO0.out⟩, ⟨by repeat (first | (with_reducible first | exact HK.out | apply Kept.alloc | apply Kept.drewN | apply Kept.drew) | exact HK.out)⟩, ⟨by repeat (first | (with_reducible first | exact HB.out | apply aH | apply aC | apply aG) | exact HB.out)⟩⟩
 case round =>
  clear H'
  try clear p2
  obtain ⟨x0_1, x1_1, x5_1, rfl, rfl, HA, HK1, HO_0, HK, HB⟩ := hrel
  cases gk with
  | zero => exact absurd HA.out (by simp [laws_markIntS.l0])
  | succ k1 =>
   have H := HA.out
   clear HA
   simp only [laws_markIntS.l0] at H
   by_cases c3 : x5_1 < (x0_1.length : Int)
   ·rw [if_pos c3] at H
    have c3b0 : decide (x5_1 < (x0_1.length : Int)) = true := decide_eq_true c3
    clear c3
    by_cases c4 : 0 ≤ x5_1
    ·rw [if_pos c4] at H
     have c4b0 : decide (0 ≤ x5_1) = true := decide_eq_true c4
     clear c4
     obtain ⟨y409, hy409⟩ : ∃ y_ : List Int, y_ = (x0_1.set (x5_1 : Int).toNat x1_1) := ⟨_, rfl⟩
     replace H : (laws_markIntS.l0 k1 y409 (wrap64 (x1_1 + 1)) (wrap64 (x5_1 + 1))) = some (r1, r2) := by first | (rw [hy409]; with_reducible exact H) | (have H2_ := (Option.bind_some _ _).symm.trans H; rw [hy409]; with_reducible exact H2_) | (have H2_ := (Option.bind_some _ _).symm.trans H; with_reducible exact H2_) | with_reducible exact H | (rw [hy409]; exact H) | exact H
     have Ny409 := aA.mk hy409
     clear hy409
     have H' := aA.mk H
     clear H
     obtain ⟨Ao6, co6, eo6⟩ := Kd.R_slice HO_0.out
     subst eo6
     have p5 : 0 ≤ (x5_1 : Int) := lE (by first | (with_reducible assumption) | assumption)
     have q5 : (x5_1 : Int) < ((x0_1.length : Int) : Int) := lE (by first | (with_reducible assumption) | assumption)
     obtain ⟨go5, co5, eo5, gb5, gl5, cl5, HG5⟩ := Kd.R_form HO_0.out (by omega)
     (first | cases eo5 | (injection eo5 with ea_ en_ ec_; (first | subst ea_ | (injection ea_ with ea_; subst ea_)); subst ec_; clear en_))
     have GB5 := aA.mk gb5
     have GG5 := aA.mk HG5
     clear gb5 gl5 HG5
     have HMgo5 := aA.mk (show (P0_ go5 ∨ w.heap.size ≤ go5) from (HO_0.out.1 _ rfl))
     obtain ⟨hx5_0, hf5_0⟩ := Kd.R_celln 0 HO_0.out (x5_1 : Int) p5 q5
     replace p5 := eq_true p5
     replace q5 := eq_true q5
     have HP7 := Kd.R_putg HO_0.out (x5_1 : Int) x1_1
     go_wp2_with (first | ((with_reducible refine gate_store (t := 3) (p := 15) rfl ?_); refine store_event (t := 3) (p := 15) (v := ?vo_w8) (w1 := (wr.setCell ⟨go5, (x5_1 : Int).toNat, none⟩ (.int .i64 x1_1))) ?hg ?ho ?hn ?hr ?_; (case ho => rfl); (case hg => rfl); (case hn => rfl); (case hr => first | (go_simp; done) | (go_simp; rfl)); intro w8 hw; have hg : wr.grownBy w8 (some go5) := (by rw [hw]; exact HP7.2); have hp_ : Kd.R (Kd.int .i64) 3 w8 w0.heap.size (fun k_ => (P0_ k_ ∨ w.heap.size ≤ k_)) (.slice (some ⟨go5, 0, none⟩) x0_1.length co6) y409 := (by rw [hw, Ny409.out]; exact HP7.1); clear HP7; have n0_ := aA.mk (hp_); have n1_ := aA.mk ((by rw [hw]; exact aJ (HB.out) GB5.out : Below w0.heap.size w0 w8)); have n2_ := aA.mk (Kept.of_grown (S := (fun k_ => P0_ k_)) hg (by repeat (first | (with_reducible first | exact HK.out | apply Kept.alloc | apply Kept.drewN | apply Kept.drew) | exact HK.out)) (fun k_ e_ => (HO_0.out.1 k_ e_))); clear HO_0; clear HB; clear HK; have HO_0 := n0_; have HB := n1_; have HK := n2_; clear n0_ n1_ n2_; clear hg hw hp_))
     go_roundg k1
     case measure => have := HK1.out; omega
     case rel => exact ⟨(y409), (wrap64 (x1_1 + 1)), (wrap64 (x5_1 + 1)), (by first | rfl | (simp; done) | (simp [*]; done)), (by first | rfl | (simp; done) | (simp [*]; done)), H', ⟨by have := HK1.out; omega⟩, ⟨by (with_reducible repeat (first | apply Kd.aY | apply Kd.aZ | apply Kd.bA)); exact HO_0.out⟩, ⟨by repeat (first | (with_reducible first | exact HK.out | apply Kept.alloc | apply Kept.drewN | apply Kept.drew) | exact HK.out)⟩, ⟨by repeat (first | (with_reducible first | exact HB.out | apply aH | apply aC | apply aG) | exact HB.out)⟩⟩
    ·rw [if_neg c4] at H
     exact absurd H (by simp)
   ·rw [if_neg c3] at H
    have c3b0 : decide (x5_1 < (x0_1.length : Int)) = false := decide_eq_false c3
    clear c3
    simp only [Option.some.injEq, Prod.mk.injEq] at H
    obtain ⟨rfl, rfl⟩ := H
    obtain ⟨Ao9, co9, eo9⟩ := Kd.R_slice HO_0.out
    subst eo9
    go_wp2
    go_ret
    exact ⟨by first | rfl | (simp [errW_none, errW_some] <;> rfl) | (simp [*, errW_none, errW_some] <;> rfl), by (with_reducible repeat (first | apply Kd.aY | apply Kd.aZ | apply Kd.bA)); exact HO_0.out, by repeat (first | (with_reducible first | exact HB.out | apply aH | apply aC | apply aG) | exact HB.out), by repeat (first | (with_reducible first | exact HK.out | apply Kept.alloc | apply Kept.drewN | apply Kept.drew) | exact HK.out)⟩
def laws_markKeyS.l0 : Nat → List (S38) → Int → Int → Option (Int × (List (S38)))
 | 0, _, _, _ => none
 | k + 1, x0, x1, x5 => if x5 < (x0.length : Int) then (if 0 ≤ x5 then ((some (x0.set (x5 : Int).toNat (⟨x1, (rd_T38 x0 x5).f1, (rd_T38 x0 x5).f2, (rd_T38 x0 x5).f3, (rd_T38 x0 x5).f4⟩ : S38) : List (S38))).bind fun y410 => ((some (y410.set (x5 : Int).toNat (⟨(rd_T38 y410 x5).f0, wrap64 (x1 + 1), (rd_T38 y410 x5).f2, (rd_T38 y410 x5).f3, (rd_T38 y410 x5).f4⟩ : S38) : List (S38))).bind fun y411 => ((some (y411.set (x5 : Int).toNat (⟨(rd_T38 y411 x5).f0, (rd_T38 y411 x5).f1, wrap64 ((wrap64 (x1 + 1)) + 1), (rd_T38 y411 x5).f3, (rd_T38 y411 x5).f4⟩ : S38) : List (S38))).bind fun y412 => ((some (y412.set (x5 : Int).toNat (⟨(rd_T38 y412 x5).f0, (rd_T38 y412 x5).f1, (rd_T38 y412 x5).f2, wrap64 ((wrap64 ((wrap64 (x1 + 1)) + 1)) + 1), (rd_T38 y412 x5).f4⟩ : S38) : List (S38))).bind fun y413 => (laws_markKeyS.l0 k (y413.set (x5 : Int).toNat (⟨(rd_T38 y413 x5).f0, (rd_T38 y413 x5).f1, (rd_T38 y413 x5).f2, (rd_T38 y413 x5).f3, wrap64 ((wrap64 ((wrap64 ((wrap64 (x1 + 1)) + 1)) + 1)) + 1)⟩ : S38)) (wrap64 ((wrap64 ((wrap64 ((wrap64 ((wrap64 (x1 + 1)) + 1)) + 1)) + 1)) + 1)) (wrap64 (x5 + 1))))))) else (none)) else (some (x1, x0))
def laws_markKeyS.f (k : Nat) (l0 : List (S38)) (a1 : Int) : Option (Int × (List (S38))) := laws_markKeyS.l0 k l0 a1 0
set_option maxHeartbeats 8000000 in
set_option maxRecDepth 100000 in
theorem laws_markKeyS.calls (k : Nat) (P0_ : Nat → Prop) (u9000_ : Value) (l0 : List (S38)) (a1 : Int) (r1 : Int) (r2 : List (S38)) (w0 w : World) (hB : Below w0.heap.size w0 w) (ho0 : Kd.R k38 38 w w0.heap.size P0_ u9000_ l0) (h : laws_markKeyS.f k l0 a1 = some (r1, r2)) :
  Calls Try.prog 95 #[u9000_, .int .i64 a1] w fun e w' => e = .returned (.int .i64 r1) ∧ Kd.R k38 38 w' w0.heap.size (fun k_ => (P0_ k_ ∨ w.heap.size ≤ k_)) u9000_ r2 ∧ Below w0.heap.size w0 w' ∧ Kept w w' (fun k_ => P0_ k_) := by
 have HO0 := aA.mk (show Kd.R k38 38 w w0.heap.size (fun k_ => (P0_ k_ ∨ w.heap.size ≤ k_)) u9000_ l0 from Kd.bK ho0 (fun k_ hk => (.inl hk)))
 have HK := aA.mk (Kept.refl w (fun k_ => P0_ k_))
 have HW0 := aA.mk hB.size
 have HB := aA.mk hB
 clear hB
 have H : (laws_markKeyS.l0 k l0 a1 0) = some (r1, r2) := h
 clear h
 have H' := aA.mk H
 clear H
 go_enter Try.func95, Try.ntmps95
 go_wp2
 go_loopg [1, 5] k (fun kq v1 v5 w' => ∃ (x0_1 : List (S38)) (x1_1 : Int) (x5_1 : Int), v1 = .int .i64 x1_1 ∧ v5 = .int .i64 x5_1 ∧ aA (laws_markKeyS.l0 kq x0_1 x1_1 x5_1 = some (r1, r2)) ∧ aA (kq ≤ k) ∧ aA (Kd.R k38 38 w' w0.heap.size (fun k_ => (P0_ k_ ∨ w.heap.size ≤ k_)) u9000_ x0_1) ∧ aA (Kept w w' (fun k_ => P0_ k_)) ∧ aA (Below w0.heap.size w0 w'))
 case atStart => exact ⟨(l0), (a1), (0), (by first | rfl | (simp; done) | (simp [*]; done)), (by first | rfl | (simp; done) | (simp [*]; done)), H', ⟨Nat.le_refl _⟩, ⟨by (with_reducible repeat (first | apply Kd.aY | apply Kd.aZ | apply Kd.bA)); exact HO0.out⟩, ⟨by repeat (first | (with_reducible first | exact HK.out | apply Kept.alloc | apply Kept.drewN | apply Kept.drew) | exact HK.out)⟩, ⟨by repeat (first | (with_reducible first | exact HB.out | apply aH | apply aC | apply aG) | exact HB.out)⟩⟩
 case round =>
  clear H'
  try clear p2
  obtain ⟨x0_1, x1_1, x5_1, rfl, rfl, HA, HK1, HO_0, HK, HB⟩ := hrel
  cases gk with
  | zero => exact absurd HA.out (by simp [laws_markKeyS.l0])
  | succ k1 =>
   have H := HA.out
   clear HA
   simp only [laws_markKeyS.l0] at H
   by_cases c3 : x5_1 < (x0_1.length : Int)
   ·rw [if_pos c3] at H
    have c3b0 : decide (x5_1 < (x0_1.length : Int)) = true := decide_eq_true c3
    clear c3
    by_cases c4 : 0 ≤ x5_1
    ·rw [if_pos c4] at H
     have c4b0 : decide (0 ≤ x5_1) = true := decide_eq_true c4
     clear c4
     obtain ⟨y410, hy410⟩ : ∃ y_ : List (S38), y_ = (x0_1.set (x5_1 : Int).toNat (⟨x1_1, (rd_T38 x0_1 x5_1).f1, (rd_T38 x0_1 x5_1).f2, (rd_T38 x0_1 x5_1).f3, (rd_T38 x0_1 x5_1).f4⟩ : S38)) := ⟨_, rfl⟩
     replace H : ((some (y410.set (x5_1 : Int).toNat (⟨(rd_T38 y410 x5_1).f0, wrap64 (x1_1 + 1), (rd_T38 y410 x5_1).f2, (rd_T38 y410 x5_1).f3, (rd_T38 y410 x5_1).f4⟩ : S38) : List (S38))).bind fun y411 => ((some (y411.set (x5_1 : Int).toNat (⟨(rd_T38 y411 x5_1).f0, (rd_T38 y411 x5_1).f1, wrap64 ((wrap64 (x1_1 + 1)) + 1), (rd_T38 y411 x5_1).f3, (rd_T38 y411 x5_1).f4⟩ : S38) : List (S38))).bind fun y412 => ((some (y412.set (x5_1 : Int).toNat (⟨(rd_T38 y412 x5_1).f0, (rd_T38 y412 x5_1).f1, (rd_T38 y412 x5_1).f2, wrap64 ((wrap64 ((wrap64 (x1_1 + 1)) + 1)) + 1), (rd_T38 y412 x5_1).f4⟩ : S38) : List (S38))).bind fun y413 => (laws_markKeyS.l0 k1 (y413.set (x5_1 : Int).toNat (⟨(rd_T38 y413 x5_1).f0, (rd_T38 y413 x5_1).f1, (rd_T38 y413 x5_1).f2, (rd_T38 y413 x5_1).f3, wrap64 ((wrap64 ((wrap64 ((wrap64 (x1_1 + 1)) + 1)) + 1)) + 1)⟩ : S38)) (wrap64 ((wrap64 ((wrap64 ((wrap64 ((wrap64 (x1_1 + 1)) + 1)) + 1)) + 1)) + 1)) (wrap64 (x5_1 + 1)))))) = some (r1, r2) := by first | (rw [hy410]; with_reducible exact H) | (have H2_ := (Option.bind_some _ _).symm.trans H; rw [hy410]; with_reducible exact H2_) | (have H2_ := (Option.bind_some _ _).symm.trans H; with_reducible exact H2_) | with_reducible exact H | (rw [hy410]; exact H) | exact H
     have Ny410 := aA.mk hy410
     clear hy410
     obtain ⟨y411, hy411⟩ : ∃ y_ : List (S38), y_ = (y410.set (x5_1 : Int).toNat (⟨(rd_T38 y410 x5_1).f0, wrap64 (x1_1 + 1), (rd_T38 y410 x5_1).f2, (rd_T38 y410 x5_1).f3, (rd_T38 y410 x5_1).f4⟩ : S38)) := ⟨_, rfl⟩
     replace H : ((some (y411.set (x5_1 : Int).toNat (⟨(rd_T38 y411 x5_1).f0, (rd_T38 y411 x5_1).f1, wrap64 ((wrap64 (x1_1 + 1)) + 1), (rd_T38 y411 x5_1).f3, (rd_T38 y411 x5_1).f4⟩ : S38) : List (S38))).bind fun y412 => ((some (y412.set (x5_1 : Int).toNat (⟨(rd_T38 y412 x5_1).f0, (rd_T38 y412 x5_1).f1, (rd_T38 y412 x5_1).f2, wrap64 ((wrap64 ((wrap64 (x1_1 + 1)) + 1)) + 1), (rd_T38 y412 x5_1).f4⟩ : S38) : List (S38))).bind fun y413 => (laws_markKeyS.l0 k1 (y413.set (x5_1 : Int).toNat (⟨(rd_T38 y413 x5_1).f0, (rd_T38 y413 x5_1).f1, (rd_T38 y413 x5_1).f2, (rd_T38 y413 x5_1).f3, wrap64 ((wrap64 ((wrap64 ((wrap64 (x1_1 + 1)) + 1)) + 1)) + 1)⟩ : S38)) (wrap64 ((wrap64 ((wrap64 ((wrap64 ((wrap64 (x1_1 + 1)) + 1)) + 1)) + 1)) + 1)) (wrap64 (x5_1 + 1))))) = some (r1, r2) := by first | (rw [hy411]; with_reducible exact H) | (have H2_ := (Option.bind_some _ _).symm.trans H; rw [hy411]; with_reducible exact H2_) | (have H2_ := (Option.bind_some _ _).symm.trans H; with_reducible exact H2_) | with_reducible exact H | (rw [hy411]; exact H) | exact H
     have Ny411 := aA.mk hy411
     clear hy411
     obtain ⟨y412, hy412⟩ : ∃ y_ : List (S38), y_ = (y411.set (x5_1 : Int).toNat (⟨(rd_T38 y411 x5_1).f0, (rd_T38 y411 x5_1).f1, wrap64 ((wrap64 (x1_1 + 1)) + 1), (rd_T38 y411 x5_1).f3, (rd_T38 y411 x5_1).f4⟩ : S38)) := ⟨_, rfl⟩
     replace H : ((some (y412.set (x5_1 : Int).toNat (⟨(rd_T38 y412 x5_1).f0, (rd_T38 y412 x5_1).f1, (rd_T38 y412 x5_1).f2, wrap64 ((wrap64 ((wrap64 (x1_1 + 1)) + 1)) + 1), (rd_T38 y412 x5_1).f4⟩ : S38) : List (S38))).bind fun y413 => (laws_markKeyS.l0 k1 (y413.set (x5_1 : Int).toNat (⟨(rd_T38 y413 x5_1).f0, (rd_T38 y413 x5_1).f1, (rd_T38 y413 x5_1).f2, (rd_T38 y413 x5_1).f3, wrap64 ((wrap64 ((wrap64 ((wrap64 (x1_1 + 1)) + 1)) + 1)) + 1)⟩ : S38)) (wrap64 ((wrap64 ((wrap64 ((wrap64 ((wrap64 (x1_1 + 1)) + 1)) + 1)) + 1)) + 1)) (wrap64 (x5_1 + 1)))) = some (r1, r2) := by first | (rw [hy412]; with_reducible exact H) | (have H2_ := (Option.bind_some _ _).symm.trans H; rw [hy412]; with_reducible exact H2_) | (have H2_ := (Option.bind_some _ _).symm.trans H; with_reducible exact H2_) | with_reducible exact H | (rw [hy412]; exact H) | exact H
     have Ny412 := aA.mk hy412
     clear hy412
     obtain ⟨y413, hy413⟩ : ∃ y_ : List (S38), y_ = (y412.set (x5_1 : Int).toNat (⟨(rd_T38 y412 x5_1).f0, (rd_T38 y412 x5_1).f1, (rd_T38 y412 x5_1).f2, wrap64 ((wrap64 ((wrap64 (x1_1 + 1)) + 1)) + 1), (rd_T38 y412 x5_1).f4⟩ : S38)) := ⟨_, rfl⟩
     replace H : (laws_markKeyS.l0 k1 (y413.set (x5_1 : Int).toNat (⟨(rd_T38 y413 x5_1).f0, (rd_T38 y413 x5_1).f1, (rd_T38 y413 x5_1).f2, (rd_T38 y413 x5_1).f3, wrap64 ((wrap64 ((wrap64 ((wrap64 (x1_1 + 1)) + 1)) + 1)) + 1)⟩ : S38)) (wrap64 ((wrap64 ((wrap64 ((wrap64 ((wrap64 (x1_1 + 1)) + 1)) + 1)) + 1)) + 1)) (wrap64 (x5_1 + 1))) = some (r1, r2) := by first | (rw [hy413]; with_reducible exact H) | (have H2_ := (Option.bind_some _ _).symm.trans H; rw [hy413]; with_reducible exact H2_) | (have H2_ := (Option.bind_some _ _).symm.trans H; with_reducible exact H2_) | with_reducible exact H | (rw [hy413]; exact H) | exact H
     have Ny413 := aA.mk hy413
     clear hy413
     obtain ⟨y414, hy414⟩ : ∃ y_ : List (S38), y_ = (y413.set (x5_1 : Int).toNat (⟨(rd_T38 y413 x5_1).f0, (rd_T38 y413 x5_1).f1, (rd_T38 y413 x5_1).f2, (rd_T38 y413 x5_1).f3, wrap64 ((wrap64 ((wrap64 ((wrap64 (x1_1 + 1)) + 1)) + 1)) + 1)⟩ : S38)) := ⟨_, rfl⟩
     replace H : (laws_markKeyS.l0 k1 y414 (wrap64 ((wrap64 ((wrap64 ((wrap64 ((wrap64 (x1_1 + 1)) + 1)) + 1)) + 1)) + 1)) (wrap64 (x5_1 + 1))) = some (r1, r2) := by first | (rw [hy414]; with_reducible exact H) | (have H2_ := (Option.bind_some _ _).symm.trans H; rw [hy414]; with_reducible exact H2_) | (have H2_ := (Option.bind_some _ _).symm.trans H; with_reducible exact H2_) | with_reducible exact H | (rw [hy414]; exact H) | exact H
     have Ny414 := aA.mk hy414
     clear hy414
     have H' := aA.mk H
     clear H
     obtain ⟨Ao10, co10, eo10⟩ := Kd.R_slice HO_0.out
     subst eo10
     have p5 : 0 ≤ (x5_1 : Int) := lE (by first | (with_reducible assumption) | assumption)
     have q5 : (x5_1 : Int) < ((x0_1.length : Int) : Int) := lE (by first | (with_reducible assumption) | assumption)
     obtain ⟨go5, co5, eo5, gb5, gl5, cl5, HG5⟩ := Kd.R_form HO_0.out (by omega)
     (first | cases eo5 | (injection eo5 with ea_ en_ ec_; (first | subst ea_ | (injection ea_ with ea_; subst ea_)); subst ec_; clear en_))
     have GB5 := aA.mk gb5
     have GG5 := aA.mk HG5
     clear gb5 gl5 HG5
     have HMgo5 := aA.mk (show (P0_ go5 ∨ w.heap.size ≤ go5) from (HO_0.out.1 _ rfl))
     obtain ⟨ce5, hcl5, hM5, hcc5, hfr5⟩ := Kd.R_elem HO_0.out z38 (x5_1 : Int) p5 q5
     obtain rfl := k38_openM hM5
     have hx5_0 : wr.cell? ⟨go5, (x5_1 : Int).toNat * 5, none⟩ = some (.int .i64 ((rd_T38 x0_1 x5_1).f0)) := hcc5 0 _ rfl
     have hx5_1 : wr.cell? ⟨go5, (x5_1 : Int).toNat * 5 + 1, none⟩ = some (.int .i64 ((rd_T38 x0_1 x5_1).f1)) := hcc5 1 _ rfl
     have hx5_2 : wr.cell? ⟨go5, (x5_1 : Int).toNat * 5 + 2, none⟩ = some (.int .i64 ((rd_T38 x0_1 x5_1).f2)) := hcc5 2 _ rfl
     have hx5_3 : wr.cell? ⟨go5, (x5_1 : Int).toNat * 5 + 3, none⟩ = some (.int .i64 ((rd_T38 x0_1 x5_1).f3)) := hcc5 3 _ rfl
     have hx5_4 : wr.cell? ⟨go5, (x5_1 : Int).toNat * 5 + 4, none⟩ = some (.int .i64 ((rd_T38 x0_1 x5_1).f4)) := hcc5 4 _ rfl
     have hf5_0 : wr.frozen? ⟨go5, (x5_1 : Int).toNat * 5, none⟩ = false := hfr5 0
     have hf5_1 : wr.frozen? ⟨go5, (x5_1 : Int).toNat * 5 + 1, none⟩ = false := hfr5 1
     have hf5_2 : wr.frozen? ⟨go5, (x5_1 : Int).toNat * 5 + 2, none⟩ = false := hfr5 2
     have hf5_3 : wr.frozen? ⟨go5, (x5_1 : Int).toNat * 5 + 3, none⟩ = false := hfr5 3
     have hf5_4 : wr.frozen? ⟨go5, (x5_1 : Int).toNat * 5 + 4, none⟩ = false := hfr5 4
     clear hcl5 hcc5 hfr5 hM5
     replace p5 := eq_true p5
     replace q5 := eq_true q5
     have HX11 := aA.mk (show Kd.R k38 38 wr w0.heap.size (fun k_ => (P0_ k_ ∨ w.heap.size ≤ k_)) (.slice (some ⟨go5, 0, none⟩) x0_1.length co10) x0_1 from (by (with_reducible repeat (first | apply Kd.aY | apply Kd.aZ | apply Kd.bA)); exact HO_0.out))
     obtain ⟨ce11, hcl11, hM11, hcc11, hfr11⟩ := Kd.R_elem HX11.out z38 (x5_1 : Int) (lE (by first | (with_reducible assumption) | assumption)) (by have h_ : (x5_1 : Int) < ((x0_1.length : Int) : Int) := lE (by first | (with_reducible assumption) | assumption); first | exact h_ | (have e_ := (Kd.R_reads' HO_0.out).1; omega) | simpa using h_)
     obtain rfl := k38_openM hM11
     have HP11 := Kd.R_seg HX11.out (x5_1 : Int) (lE (by first | (with_reducible assumption) | assumption)) (by have h_ : (x5_1 : Int) < ((x0_1.length : Int) : Int) := lE (by first | (with_reducible assumption) | assumption); first | exact h_ | (have e_ := (Kd.R_reads' HO_0.out).1; omega) | simpa using h_) (seg := [.int .i64 x1_1]) (j := 0) hcl11 hcc11 (show 1 ≤ 5 from by decide) (x' := (⟨x1_1, (rd_T38 x0_1 x5_1).f1, (rd_T38 x0_1 x5_1).f2, (rd_T38 x0_1 x5_1).f3, (rd_T38 x0_1 x5_1).f4⟩ : S38)) (k38_mkM _ _ _ (⟨x1_1, (rd_T38 x0_1 x5_1).f1, (rd_T38 x0_1 x5_1).f2, (rd_T38 x0_1 x5_1).f3, (rd_T38 x0_1 x5_1).f4⟩ : S38) ) (fun _ hk => hk)
     have hx11_0 := hcc11 0 _ rfl
     (try simp only [show (k38).sz = 5 from rfl, Nat.mul_one, Nat.add_zero] at hx11_0)
     have hf11_0 := hfr11 0
     (try simp only [show (k38).sz = 5 from rfl, Nat.mul_one, Nat.add_zero] at hf11_0)
     clear hcl11 hcc11 hfr11 hM11
     go_wp2_with (first | ((with_reducible refine gate_store (t := 3) (p := 16) rfl ?_); refine store_event (t := 3) (p := 16) (v := ?vo_w12) (w1 := (wr.setCell ⟨go5, (x5_1 : Int).toNat * 5, none⟩ (.int .i64 x1_1))) ?hg ?ho ?hn ?hr ?_; (case ho => rfl); (case hg => rfl); (case hn => rfl); (case hr => first | (go_simp; done) | (go_simp; rfl)); intro w12 hw; have hg : wr.grownBy w12 (some go5) := (by rw [hw]; exact HP11.2); have hp_ : Kd.R k38 38 w12 w0.heap.size (fun k_ => (P0_ k_ ∨ w.heap.size ≤ k_)) (.slice (some ⟨go5, 0, none⟩) x0_1.length co10) y410 := (by rw [hw, Ny410.out]; exact HP11.1); clear HP11; have n0_ := aA.mk (hp_); have n1_ := aA.mk ((by rw [hw]; exact aJ (HB.out) GB5.out : Below w0.heap.size w0 w12)); have n2_ := aA.mk (Kept.of_grown (S := (fun k_ => P0_ k_)) hg (by repeat (first | (with_reducible first | exact HK.out | apply Kept.alloc | apply Kept.drewN | apply Kept.drew) | exact HK.out)) (fun k_ e_ => (HO_0.out.1 k_ e_))); clear HO_0; clear HB; clear HK; have HO_0 := n0_; have HB := n1_; have HK := n2_; clear n0_ n1_ n2_; clear hg hw hp_; have p6 : 0 ≤ (x5_1 : Int) := lE (by first | (with_reducible assumption) | assumption); have q6 : (x5_1 : Int) < ((x0_1.length : Int) : Int) := lE (by first | (with_reducible assumption) | assumption); obtain ⟨ce6, hcl6, hM6, hcc6, hfr6⟩ := Kd.R_elem HO_0.out z38 (x5_1 : Int) p6 q6; obtain rfl := k38_openM hM6; have hx6_0 : w12.cell? ⟨go5, (x5_1 : Int).toNat * 5, none⟩ = some (.int .i64 ((rd_T38 y410 x5_1).f0)) := hcc6 0 _ rfl; have hx6_1 : w12.cell? ⟨go5, (x5_1 : Int).toNat * 5 + 1, none⟩ = some (.int .i64 ((rd_T38 y410 x5_1).f1)) := hcc6 1 _ rfl; have hx6_2 : w12.cell? ⟨go5, (x5_1 : Int).toNat * 5 + 2, none⟩ = some (.int .i64 ((rd_T38 y410 x5_1).f2)) := hcc6 2 _ rfl; have hx6_3 : w12.cell? ⟨go5, (x5_1 : Int).toNat * 5 + 3, none⟩ = some (.int .i64 ((rd_T38 y410 x5_1).f3)) := hcc6 3 _ rfl; have hx6_4 : w12.cell? ⟨go5, (x5_1 : Int).toNat * 5 + 4, none⟩ = some (.int .i64 ((rd_T38 y410 x5_1).f4)) := hcc6 4 _ rfl; have hf6_0 : w12.frozen? ⟨go5, (x5_1 : Int).toNat * 5, none⟩ = false := hfr6 0; have hf6_1 : w12.frozen? ⟨go5, (x5_1 : Int).toNat * 5 + 1, none⟩ = false := hfr6 1; have hf6_2 : w12.frozen? ⟨go5, (x5_1 : Int).toNat * 5 + 2, none⟩ = false := hfr6 2; have hf6_3 : w12.frozen? ⟨go5, (x5_1 : Int).toNat * 5 + 3, none⟩ = false := hfr6 3; have hf6_4 : w12.frozen? ⟨go5, (x5_1 : Int).toNat * 5 + 4, none⟩ = false := hfr6 4; (try clear hcl6); (try clear hcc6); (try clear hfr6); (try clear hM6); replace p6 := eq_true p6; replace q6 := eq_true q6; have HX13 := aA.mk (show Kd.R k38 38 w12 w0.heap.size (fun k_ => (P0_ k_ ∨ w.heap.size ≤ k_)) (.slice (some ⟨go5, 0, none⟩) x0_1.length co10) y410 from (by (with_reducible repeat (first | apply Kd.aY | apply Kd.aZ | apply Kd.bA)); exact HO_0.out)); obtain ⟨ce13, hcl13, hM13, hcc13, hfr13⟩ := Kd.R_elem HX13.out z38 (x5_1 : Int) (lE (by first | (with_reducible assumption) | assumption)) (by have h_ : (x5_1 : Int) < ((x0_1.length : Int) : Int) := lE (by first | (with_reducible assumption) | assumption); first | exact h_ | (have e_ := (Kd.R_reads' HO_0.out).1; omega) | simpa using h_); obtain rfl := k38_openM hM13; have HP13 := Kd.R_seg HX13.out (x5_1 : Int) (lE (by first | (with_reducible assumption) | assumption)) (by have h_ : (x5_1 : Int) < ((x0_1.length : Int) : Int) := lE (by first | (with_reducible assumption) | assumption); first | exact h_ | (have e_ := (Kd.R_reads' HO_0.out).1; omega) | simpa using h_) (seg := [.int .i64 (wrap64 (x1_1 + 1))]) (j := 1) hcl13 hcc13 (show 2 ≤ 5 from by decide) (x' := (⟨(rd_T38 y410 x5_1).f0, wrap64 (x1_1 + 1), (rd_T38 y410 x5_1).f2, (rd_T38 y410 x5_1).f3, (rd_T38 y410 x5_1).f4⟩ : S38)) (k38_mkM _ _ _ (⟨(rd_T38 y410 x5_1).f0, wrap64 (x1_1 + 1), (rd_T38 y410 x5_1).f2, (rd_T38 y410 x5_1).f3, (rd_T38 y410 x5_1).f4⟩ : S38) ) (fun _ hk => hk); have hx13_1 := hcc13 1 _ rfl; (try simp only [show (k38).sz = 5 from rfl, Nat.mul_one, Nat.add_zero] at hx13_1); have hf13_1 := hfr13 1; (try simp only [show (k38).sz = 5 from rfl, Nat.mul_one, Nat.add_zero] at hf13_1); (try clear hcl13); (try clear hcc13); (try clear hfr13); (try clear hM13)) | ((with_reducible refine gate_store (t := 3) (p := 23) rfl ?_); refine store_event (t := 3) (p := 23) (v := ?vo_w14) (w1 := (w12.setCell ⟨go5, (x5_1 : Int).toNat * 5 + 1, none⟩ (.int .i64 (wrap64 (x1_1 + 1))))) ?hg ?ho ?hn ?hr ?_; (case ho => rfl); (case hg => rfl); (case hn => rfl); (case hr => first | (go_simp; done) | (go_simp; rfl)); intro w14 hw; have hg : w12.grownBy w14 (some go5) := (by rw [hw]; exact HP13.2); have hp_ : Kd.R k38 38 w14 w0.heap.size (fun k_ => (P0_ k_ ∨ w.heap.size ≤ k_)) (.slice (some ⟨go5, 0, none⟩) x0_1.length co10) y411 := (by rw [hw, Ny411.out]; exact HP13.1); clear HP13; have n0_ := aA.mk (hp_); have n1_ := aA.mk ((by rw [hw]; exact aJ (HB.out) GB5.out : Below w0.heap.size w0 w14)); have n2_ := aA.mk (Kept.of_grown (S := (fun k_ => P0_ k_)) hg (by repeat (first | (with_reducible first | exact HK.out | apply Kept.alloc | apply Kept.drewN | apply Kept.drew) | exact HK.out)) (fun k_ e_ => (HO_0.out.1 k_ e_))); clear HO_0; clear HB; clear HK; have HO_0 := n0_; have HB := n1_; have HK := n2_; clear n0_ n1_ n2_; clear hg hw hp_; have p7 : 0 ≤ (x5_1 : Int) := lE (by first | (with_reducible assumption) | assumption); have q7 : (x5_1 : Int) < ((x0_1.length : Int) : Int) := lE (by first | (with_reducible assumption) | assumption); obtain ⟨ce7, hcl7, hM7, hcc7, hfr7⟩ := Kd.R_elem HO_0.out z38 (x5_1 : Int) p7 q7; obtain rfl := k38_openM hM7; have hx7_0 : w14.cell? ⟨go5, (x5_1 : Int).toNat * 5, none⟩ = some (.int .i64 ((rd_T38 y411 x5_1).f0)) := hcc7 0 _ rfl; have hx7_1 : w14.cell? ⟨go5, (x5_1 : Int).toNat * 5 + 1, none⟩ = some (.int .i64 ((rd_T38 y411 x5_1).f1)) := hcc7 1 _ rfl; have hx7_2 : w14.cell? ⟨go5, (x5_1 : Int).toNat * 5 + 2, none⟩ = some (.int .i64 ((rd_T38 y411 x5_1).f2)) := hcc7 2 _ rfl; have hx7_3 : w14.cell? ⟨go5, (x5_1 : Int).toNat * 5 + 3, none⟩ = some (.int .i64 ((rd_T38 y411 x5_1).f3)) := hcc7 3 _ rfl; have hx7_4 : w14.cell? ⟨go5, (x5_1 : Int).toNat * 5 + 4, none⟩ = some (.int .i64 ((rd_T38 y411 x5_1).f4)) := hcc7 4 _ rfl; have hf7_0 : w14.frozen? ⟨go5, (x5_1 : Int).toNat * 5, none⟩ = false := hfr7 0; have hf7_1 : w14.frozen? ⟨go5, (x5_1 : Int).toNat * 5 + 1, none⟩ = false := hfr7 1; have hf7_2 : w14.frozen? ⟨go5, (x5_1 : Int).toNat * 5 + 2, none⟩ = false := hfr7 2; have hf7_3 : w14.frozen? ⟨go5, (x5_1 : Int).toNat * 5 + 3, none⟩ = false := hfr7 3; have hf7_4 : w14.frozen? ⟨go5, (x5_1 : Int).toNat * 5 + 4, none⟩ = false := hfr7 4; (try clear hcl7); (try clear hcc7); (try clear hfr7); (try clear hM7); replace p7 := eq_true p7; replace q7 := eq_true q7; have HX15 := aA.mk (show Kd.R k38 38 w14 w0.heap.size (fun k_ => (P0_ k_ ∨ w.heap.size ≤ k_)) (.slice (some ⟨go5, 0, none⟩) x0_1.length co10) y411 from (by (with_reducible repeat (first | apply Kd.aY | apply Kd.aZ | apply Kd.bA)); exact HO_0.out)); obtain ⟨ce15, hcl15, hM15, hcc15, hfr15⟩ := Kd.R_elem HX15.out z38 (x5_1 : Int) (lE (by first | (with_reducible assumption) | assumption)) (by have h_ : (x5_1 : Int) < ((x0_1.length : Int) : Int) := lE (by first | (with_reducible assumption) | assumption); first | exact h_ | (have e_ := (Kd.R_reads' HO_0.out).1; omega) | simpa using h_); obtain rfl := k38_openM hM15; have HP15 := Kd.R_seg HX15.out (x5_1 : Int) (lE (by first | (with_reducible assumption) | assumption)) (by have h_ : (x5_1 : Int) < ((x0_1.length : Int) : Int) := lE (by first | (with_reducible assumption) | assumption); first | exact h_ | (have e_ := (Kd.R_reads' HO_0.out).1; omega) | simpa using h_) (seg := [.int .i64 (wrap64 ((wrap64 (x1_1 + 1)) + 1))]) (j := 2) hcl15 hcc15 (show 3 ≤ 5 from by decide) (x' := (⟨(rd_T38 y411 x5_1).f0, (rd_T38 y411 x5_1).f1, wrap64 ((wrap64 (x1_1 + 1)) + 1), (rd_T38 y411 x5_1).f3, (rd_T38 y411 x5_1).f4⟩ : S38)) (k38_mkM _ _ _ (⟨(rd_T38 y411 x5_1).f0, (rd_T38 y411 x5_1).f1, wrap64 ((wrap64 (x1_1 + 1)) + 1), (rd_T38 y411 x5_1).f3, (rd_T38 y411 x5_1).f4⟩ : S38) ) (fun _ hk => hk); have hx15_2 := hcc15 2 _ rfl; (try simp only [show (k38).sz = 5 from rfl, Nat.mul_one, Nat.add_zero] at hx15_2); have hf15_2 := hfr15 2; (try simp only [show (k38).sz = 5 from rfl, Nat.mul_one, Nat.add_zero] at hf15_2); (try clear hcl15); (try clear hcc15); (try clear hfr15); (try clear hM15)) | ((with_reducible refine gate_store (t := 3) (p := 30) rfl ?_); refine store_event (t := 3) (p := 30) (v := ?vo_w16) (w1 := (w14.setCell ⟨go5, (x5_1 : Int).toNat * 5 + 2, none⟩ (.int .i64 (wrap64 ((wrap64 (x1_1 + 1)) + 1))))) ?hg ?ho ?hn ?hr ?_; (case ho => rfl); (case hg => rfl); (case hn => rfl); (case hr => first | (go_simp; done) | (go_simp; rfl)); intro w16 hw; have hg : w14.grownBy w16 (some go5) := (by rw [hw]; exact HP15.2); have hp_ : Kd.R k38 38 w16 w0.heap.size (fun k_ => (P0_ k_ ∨ w.heap.size ≤ k_)) (.slice (some ⟨go5, 0, none⟩) x0_1.length co10) y412 := (by rw [hw, Ny412.out]; exact HP15.1); clear HP15; have n0_ := aA.mk (hp_); have n1_ := aA.mk ((by rw [hw]; exact aJ (HB.out) GB5.out : Below w0.heap.size w0 w16)); have n2_ := aA.mk (Kept.of_grown (S := (fun k_ => P0_ k_)) hg (by repeat (first | (with_reducible first | exact HK.out | apply Kept.alloc | apply Kept.drewN | apply Kept.drew) | exact HK.out)) (fun k_ e_ => (HO_0.out.1 k_ e_))); clear HO_0; clear HB; clear HK; have HO_0 := n0_; have HB := n1_; have HK := n2_; clear n0_ n1_ n2_; clear hg hw hp_; have p8 : 0 ≤ (x5_1 : Int) := lE (by first | (with_reducible assumption) | assumption); have q8 : (x5_1 : Int) < ((x0_1.length : Int) : Int) := lE (by first | (with_reducible assumption) | assumption); obtain ⟨ce8, hcl8, hM8, hcc8, hfr8⟩ := Kd.R_elem HO_0.out z38 (x5_1 : Int) p8 q8; obtain rfl := k38_openM hM8; have hx8_0 : w16.cell? ⟨go5, (x5_1 : Int).toNat * 5, none⟩ = some (.int .i64 ((rd_T38 y412 x5_1).f0)) := hcc8 0 _ rfl; have hx8_1 : w16.cell? ⟨go5, (x5_1 : Int).toNat * 5 + 1, none⟩ = some (.int .i64 ((rd_T38 y412 x5_1).f1)) := hcc8 1 _ rfl; have hx8_2 : w16.cell? ⟨go5, (x5_1 : Int).toNat * 5 + 2, none⟩ = some (.int .i64 ((rd_T38 y412 x5_1).f2)) := hcc8 2 _ rfl; have hx8_3 : w16.cell? ⟨go5, (x5_1 : Int).toNat * 5 + 3, none⟩ = some (.int .i64 ((rd_T38 y412 x5_1).f3)) := hcc8 3 _ rfl; have hx8_4 : w16.cell? ⟨go5, (x5_1 : Int).toNat * 5 + 4, none⟩ = some (.int .i64 ((rd_T38 y412 x5_1).f4)) := hcc8 4 _ rfl; have hf8_0 : w16.frozen? ⟨go5, (x5_1 : Int).toNat * 5, none⟩ = false := hfr8 0; have hf8_1 : w16.frozen? ⟨go5, (x5_1 : Int).toNat * 5 + 1, none⟩ = false := hfr8 1; have hf8_2 : w16.frozen? ⟨go5, (x5_1 : Int).toNat * 5 + 2, none⟩ = false := hfr8 2; have hf8_3 : w16.frozen? ⟨go5, (x5_1 : Int).toNat * 5 + 3, none⟩ = false := hfr8 3; have hf8_4 : w16.frozen? ⟨go5, (x5_1 : Int).toNat * 5 + 4, none⟩ = false := hfr8 4; (try clear hcl8); (try clear hcc8); (try clear hfr8); (try clear hM8); replace p8 := eq_true p8; replace q8 := eq_true q8; have HX17 := aA.mk (show Kd.R k38 38 w16 w0.heap.size (fun k_ => (P0_ k_ ∨ w.heap.size ≤ k_)) (.slice (some ⟨go5, 0, none⟩) x0_1.length co10) y412 from (by (with_reducible repeat (first | apply Kd.aY | apply Kd.aZ | apply Kd.bA)); exact HO_0.out)); obtain ⟨ce17, hcl17, hM17, hcc17, hfr17⟩ := Kd.R_elem HX17.out z38 (x5_1 : Int) (lE (by first | (with_reducible assumption) | assumption)) (by have h_ : (x5_1 : Int) < ((x0_1.length : Int) : Int) := lE (by first | (with_reducible assumption) | assumption); first | exact h_ | (have e_ := (Kd.R_reads' HO_0.out).1; omega) | simpa using h_); obtain rfl := k38_openM hM17; have HP17 := Kd.R_seg HX17.out (x5_1 : Int) (lE (by first | (with_reducible assumption) | assumption)) (by have h_ : (x5_1 : Int) < ((x0_1.length : Int) : Int) := lE (by first | (with_reducible assumption) | assumption); first | exact h_ | (have e_ := (Kd.R_reads' HO_0.out).1; omega) | simpa using h_) (seg := [.int .i64 (wrap64 ((wrap64 ((wrap64 (x1_1 + 1)) + 1)) + 1))]) (j := 3) hcl17 hcc17 (show 4 ≤ 5 from by decide) (x' := (⟨(rd_T38 y412 x5_1).f0, (rd_T38 y412 x5_1).f1, (rd_T38 y412 x5_1).f2, wrap64 ((wrap64 ((wrap64 (x1_1 + 1)) + 1)) + 1), (rd_T38 y412 x5_1).f4⟩ : S38)) (k38_mkM _ _ _ (⟨(rd_T38 y412 x5_1).f0, (rd_T38 y412 x5_1).f1, (rd_T38 y412 x5_1).f2, wrap64 ((wrap64 ((wrap64 (x1_1 + 1)) + 1)) + 1), (rd_T38 y412 x5_1).f4⟩ : S38) ) (fun _ hk => hk); have hx17_3 := hcc17 3 _ rfl; (try simp only [show (k38).sz = 5 from rfl, Nat.mul_one, Nat.add_zero] at hx17_3); have hf17_3 := hfr17 3; (try simp only [show (k38).sz = 5 from rfl, Nat.mul_one, Nat.add_zero] at hf17_3); (try clear hcl17); (try clear hcc17); (try clear hfr17); (try clear hM17)) | ((with_reducible refine gate_store (t := 3) (p := 37) rfl ?_); refine store_event (t := 3) (p := 37) (v := ?vo_w18) (w1 := (w16.setCell ⟨go5, (x5_1 : Int).toNat * 5 + 3, none⟩ (.int .i64 (wrap64 ((wrap64 ((wrap64 (x1_1 + 1)) + 1)) + 1))))) ?hg ?ho ?hn ?hr ?_; (case ho => rfl); (case hg => rfl); (case hn => rfl); (case hr => first | (go_simp; done) | (go_simp; rfl)); intro w18 hw; have hg : w16.grownBy w18 (some go5) := (by rw [hw]; exact HP17.2); have hp_ : Kd.R k38 38 w18 w0.heap.size (fun k_ => (P0_ k_ ∨ w.heap.size ≤ k_)) (.slice (some ⟨go5, 0, none⟩) x0_1.length co10) y413 := (by rw [hw, Ny413.out]; exact HP17.1); clear HP17; have n0_ := aA.mk (hp_); have n1_ := aA.mk ((by rw [hw]; exact aJ (HB.out) GB5.out : Below w0.heap.size w0 w18)); have n2_ := aA.mk (Kept.of_grown (S := (fun k_ => P0_ k_)) hg (by repeat (first | (with_reducible first | exact HK.out | apply Kept.alloc | apply Kept.drewN | apply Kept.drew) | exact HK.out)) (fun k_ e_ => (HO_0.out.1 k_ e_))); clear HO_0; clear HB; clear HK; have HO_0 := n0_; have HB := n1_; have HK := n2_; clear n0_ n1_ n2_; clear hg hw hp_; have p9 : 0 ≤ (x5_1 : Int) := lE (by first | (with_reducible assumption) | assumption); have q9 : (x5_1 : Int) < ((x0_1.length : Int) : Int) := lE (by first | (with_reducible assumption) | assumption); obtain ⟨ce9, hcl9, hM9, hcc9, hfr9⟩ := Kd.R_elem HO_0.out z38 (x5_1 : Int) p9 q9; obtain rfl := k38_openM hM9; have hx9_0 : w18.cell? ⟨go5, (x5_1 : Int).toNat * 5, none⟩ = some (.int .i64 ((rd_T38 y413 x5_1).f0)) := hcc9 0 _ rfl; have hx9_1 : w18.cell? ⟨go5, (x5_1 : Int).toNat * 5 + 1, none⟩ = some (.int .i64 ((rd_T38 y413 x5_1).f1)) := hcc9 1 _ rfl; have hx9_2 : w18.cell? ⟨go5, (x5_1 : Int).toNat * 5 + 2, none⟩ = some (.int .i64 ((rd_T38 y413 x5_1).f2)) := hcc9 2 _ rfl; have hx9_3 : w18.cell? ⟨go5, (x5_1 : Int).toNat * 5 + 3, none⟩ = some (.int .i64 ((rd_T38 y413 x5_1).f3)) := hcc9 3 _ rfl; have hx9_4 : w18.cell? ⟨go5, (x5_1 : Int).toNat * 5 + 4, none⟩ = some (.int .i64 ((rd_T38 y413 x5_1).f4)) := hcc9 4 _ rfl; have hf9_0 : w18.frozen? ⟨go5, (x5_1 : Int).toNat * 5, none⟩ = false := hfr9 0; have hf9_1 : w18.frozen? ⟨go5, (x5_1 : Int).toNat * 5 + 1, none⟩ = false := hfr9 1; have hf9_2 : w18.frozen? ⟨go5, (x5_1 : Int).toNat * 5 + 2, none⟩ = false := hfr9 2; have hf9_3 : w18.frozen? ⟨go5, (x5_1 : Int).toNat * 5 + 3, none⟩ = false := hfr9 3; have hf9_4 : w18.frozen? ⟨go5, (x5_1 : Int).toNat * 5 + 4, none⟩ = false := hfr9 4; (try clear hcl9); (try clear hcc9); (try clear hfr9); (try clear hM9); replace p9 := eq_true p9; replace q9 := eq_true q9; have HX19 := aA.mk (show Kd.R k38 38 w18 w0.heap.size (fun k_ => (P0_ k_ ∨ w.heap.size ≤ k_)) (.slice (some ⟨go5, 0, none⟩) x0_1.length co10) y413 from (by (with_reducible repeat (first | apply Kd.aY | apply Kd.aZ | apply Kd.bA)); exact HO_0.out)); obtain ⟨ce19, hcl19, hM19, hcc19, hfr19⟩ := Kd.R_elem HX19.out z38 (x5_1 : Int) (lE (by first | (with_reducible assumption) | assumption)) (by have h_ : (x5_1 : Int) < ((x0_1.length : Int) : Int) := lE (by first | (with_reducible assumption) | assumption); first | exact h_ | (have e_ := (Kd.R_reads' HO_0.out).1; omega) | simpa using h_); obtain rfl := k38_openM hM19; have HP19 := Kd.R_seg HX19.out (x5_1 : Int) (lE (by first | (with_reducible assumption) | assumption)) (by have h_ : (x5_1 : Int) < ((x0_1.length : Int) : Int) := lE (by first | (with_reducible assumption) | assumption); first | exact h_ | (have e_ := (Kd.R_reads' HO_0.out).1; omega) | simpa using h_) (seg := [.int .i64 (wrap64 ((wrap64 ((wrap64 ((wrap64 (x1_1 + 1)) + 1)) + 1)) + 1))]) (j := 4) hcl19 hcc19 (show 5 ≤ 5 from by decide) (x' := (⟨(rd_T38 y413 x5_1).f0, (rd_T38 y413 x5_1).f1, (rd_T38 y413 x5_1).f2, (rd_T38 y413 x5_1).f3, wrap64 ((wrap64 ((wrap64 ((wrap64 (x1_1 + 1)) + 1)) + 1)) + 1)⟩ : S38)) (k38_mkM _ _ _ (⟨(rd_T38 y413 x5_1).f0, (rd_T38 y413 x5_1).f1, (rd_T38 y413 x5_1).f2, (rd_T38 y413 x5_1).f3, wrap64 ((wrap64 ((wrap64 ((wrap64 (x1_1 + 1)) + 1)) + 1)) + 1)⟩ : S38) ) (fun _ hk => hk); have hx19_4 := hcc19 4 _ rfl; (try simp only [show (k38).sz = 5 from rfl, Nat.mul_one, Nat.add_zero] at hx19_4); have hf19_4 := hfr19 4; (try simp only [show (k38).sz = 5 from rfl, Nat.mul_one, Nat.add_zero] at hf19_4); (try clear hcl19); (try clear hcc19); (try clear hfr19); (try clear hM19)) | ((with_reducible refine gate_store (t := 3) (p := 44) rfl ?_); refine store_event (t := 3) (p := 44) (v := ?vo_w20) (w1 := (w18.setCell ⟨go5, (x5_1 : Int).toNat * 5 + 4, none⟩ (.int .i64 (wrap64 ((wrap64 ((wrap64 ((wrap64 (x1_1 + 1)) + 1)) + 1)) + 1))))) ?hg ?ho ?hn ?hr ?_; (case ho => rfl); (case hg => rfl); (case hn => rfl); (case hr => first | (go_simp; done) | (go_simp; rfl)); intro w20 hw; have hg : w18.grownBy w20 (some go5) := (by rw [hw]; exact HP19.2); have hp_ : Kd.R k38 38 w20 w0.heap.size (fun k_ => (P0_ k_ ∨ w.heap.size ≤ k_)) (.slice (some ⟨go5, 0, none⟩) x0_1.length co10) y414 := (by rw [hw, Ny414.out]; exact HP19.1); clear HP19; have n0_ := aA.mk (hp_); have n1_ := aA.mk ((by rw [hw]; exact aJ (HB.out) GB5.out : Below w0.heap.size w0 w20)); have n2_ := aA.mk (Kept.of_grown (S := (fun k_ => P0_ k_)) hg (by repeat (first | (with_reducible first | exact HK.out | apply Kept.alloc | apply Kept.drewN | apply Kept.drew) | exact HK.out)) (fun k_ e_ => (HO_0.out.1 k_ e_))); clear HO_0; clear HB; clear HK; have HO_0 := n0_; have HB := n1_; have HK := n2_; clear n0_ n1_ n2_; clear hg hw hp_))
     go_roundg k1
     case measure => have := HK1.out; omega
     case rel => exact ⟨(y414), (wrap64 ((wrap64 ((wrap64 ((wrap64 ((wrap64 (x1_1 + 1)) + 1)) + 1)) + 1)) + 1)), (wrap64 (x5_1 + 1)), (by first | rfl | (simp; done) | (simp [*]; done)), (by first | rfl | (simp; done) | (simp [*]; done)), H', ⟨by have := HK1.out; omega⟩, ⟨by (with_reducible repeat (first | apply Kd.aY | apply Kd.aZ | apply Kd.bA)); exact HO_0.out⟩, ⟨by repeat (first | (with_reducible first | exact HK.out | apply Kept.alloc | apply Kept.drewN | apply Kept.drew) | exact HK.out)⟩, ⟨by repeat (first | (with_reducible first | exact HB.out | apply aH | apply aC | apply aG) | exact HB.out)⟩⟩
    ·rw [if_neg c4] at H
     exact absurd H (by simp)
   ·rw [if_neg c3] at H
    have c3b0 : decide (x5_1 < (x0_1.length : Int)) = false := decide_eq_false c3
    clear c3
    simp only [Option.some.injEq, Prod.mk.injEq] at H
    obtain ⟨rfl, rfl⟩ := H
    obtain ⟨Ao21, co21, eo21⟩ := Kd.R_slice HO_0.out
    subst eo21
    go_wp2
    go_ret
    exact ⟨by first | rfl | (simp [errW_none, errW_some] <;> rfl) | (simp [*, errW_none, errW_some] <;> rfl), by (with_reducible repeat (first | apply Kd.aY | apply Kd.aZ | apply Kd.bA)); exact HO_0.out, by repeat (first | (with_reducible first | exact HB.out | apply aH | apply aC | apply aG) | exact HB.out), by repeat (first | (with_reducible first | exact HK.out | apply Kept.alloc | apply Kept.drewN | apply Kept.drew) | exact HK.out)⟩
-- NOT PRINTED: function 72 (laws_markKeySS)
-- NOT PRINTED: function 37 (laws_markNodeS)
-- NOT PRINTED: function 11 (laws_markTree)
def laws_heldIntS.l0 : Nat → List Int → Int → Int → Option (Int)
 | 0, _, _, _ => none
 | k + 1, x0, x1, x5 => if x5 < (x0.length : Int) then (if 0 ≤ x5 then (if (rd x0 x5) = x1 then (laws_heldIntS.l0 k x0 (wrap64 (x1 + 1)) (wrap64 (x5 + 1))) else (some (-1))) else (none)) else (some x1)
def laws_heldIntS.f (k : Nat) (l0 : List Int) (a1 : Int) : Option (Int) := laws_heldIntS.l0 k l0 a1 0
set_option maxHeartbeats 8000000 in
set_option maxRecDepth 100000 in
theorem laws_heldIntS.calls (k : Nat) (A0 : Option Addr) (c0 : Nat) (l0 : List Int) (a1 : Int) (r : Int) (w : World) (hr0 : Kd.C (Kd.int .i64) w A0 l0.length l0) (hc0 : l0.length ≤ c0) (h : laws_heldIntS.f k l0 a1 = some r) :
  Calls Try.prog 38 #[.slice A0 l0.length c0, .int .i64 a1] w fun e w' => e = .returned (.int .i64 r) ∧ bH w w' := by
 have HR0 := aA.mk hr0
 have HC0 := aA.mk hc0
 clear hr0 hc0
 have H : (laws_heldIntS.l0 k l0 a1 0) = some r := h
 clear h
 have H' := aA.mk H
 clear H
 go_enter Try.func38, Try.ntmps38
 go_wp2
 go_loopg [1, 5] k (fun kq v1 v5 w' => ∃ (x1_1 : Int) (x5_1 : Int), v1 = .int .i64 x1_1 ∧ v5 = .int .i64 x5_1 ∧ aA (laws_heldIntS.l0 kq l0 x1_1 x5_1 = some r) ∧ aA (kq ≤ k) ∧ bH w w')
 case atStart => exact ⟨(a1), (0), (by first | rfl | (simp; done) | (simp [*]; done)), (by first | rfl | (simp; done) | (simp [*]; done)), H', ⟨Nat.le_refl _⟩, by repeat (first | exact bH.refl _ | apply bH.step)⟩
 case round =>
  clear H'
  try clear p2
  obtain ⟨x1_1, x5_1, rfl, rfl, HA, HK1, ⟨m1, rfl⟩⟩ := hrel
  cases gk with
  | zero => exact absurd HA.out (by simp [laws_heldIntS.l0])
  | succ k1 =>
   have H := HA.out
   clear HA
   simp only [laws_heldIntS.l0] at H
   by_cases c3 : x5_1 < (l0.length : Int)
   ·rw [if_pos c3] at H
    have c3b0 : decide (x5_1 < (l0.length : Int)) = true := decide_eq_true c3
    clear c3
    by_cases c4 : 0 ≤ x5_1
    ·rw [if_pos c4] at H
     have c4b0 : decide (0 ≤ x5_1) = true := decide_eq_true c4
     clear c4
     by_cases c5 : (rd l0 x5_1) = x1_1
     ·rw [if_pos c5] at H
      have c5b0 : ((rd l0 x5_1) == x1_1) = true := beq_iff_eq.mpr c5
      have c5b1 : ((rd l0 x5_1) != x1_1) = false := bne_eq_false_iff_eq.mpr c5
      clear c5
      have H' := aA.mk H
      clear H
      have p420 : 0 ≤ (x5_1 : Int) := lE (by first | (with_reducible assumption) | assumption)
      have q420 : x5_1 < (l0.length : Int) := lE (by first | (with_reducible assumption) | assumption)
      obtain ⟨ad420, e420, hx420_0⟩ := Kd.at_int HR0.out x5_1 p420 q420
      cases e420
      replace p420 := eq_true p420
      replace q420 := eq_true q420
      go_wp2
      go_roundg k1
      case measure => have := HK1.out; omega
      case rel => exact ⟨(wrap64 (x1_1 + 1)), (wrap64 (x5_1 + 1)), (by first | rfl | (simp; done) | (simp [*]; done)), (by first | rfl | (simp; done) | (simp [*]; done)), H', ⟨by have := HK1.out; omega⟩, by repeat (first | exact bH.refl _ | apply bH.step)⟩
     ·rw [if_neg c5] at H
      have c5b0 : ((rd l0 x5_1) == x1_1) = false := beq_eq_false_iff_ne.mpr c5
      have c5b1 : ((rd l0 x5_1) != x1_1) = true := bne_iff_ne.mpr c5
      obtain rfl := Option.some.inj H
      have p420 : 0 ≤ (x5_1 : Int) := lE (by first | (with_reducible assumption) | assumption)
      have q420 : x5_1 < (l0.length : Int) := lE (by first | (with_reducible assumption) | assumption)
      obtain ⟨ad420, e420, hx420_0⟩ := Kd.at_int HR0.out x5_1 p420 q420
      cases e420
      replace p420 := eq_true p420
      replace q420 := eq_true q420
      go_wp2
      go_ret
      exact ⟨by first | rfl | (simp; done) | (simp [*]; done), by repeat (first | exact bH.refl _ | apply bH.step)⟩
    ·rw [if_neg c4] at H
     exact absurd H (by simp)
   ·rw [if_neg c3] at H
    have c3b0 : decide (x5_1 < (l0.length : Int)) = false := decide_eq_false c3
    clear c3
    obtain rfl := Option.some.inj H
    go_wp2
    go_ret
    exact ⟨by first | rfl | (simp; done) | (simp [*]; done), by repeat (first | exact bH.refl _ | apply bH.step)⟩
end Go.Proofs.Ytamjbjkbineafaa.PFnExactTreePack

namespace Go.Proofs.Ytamjbjkbineafaa.PFnExactTreePack
open Go.RowKit Go.Proofs.YtamjbjkbineafaaW.PrintWords Go.Proofs.YtamjbjkbineafaaW.PrintLast Go.Proofs.YtamjbjkbineafaaW.PrintMore
attribute [local go_sem] max2_int min2_int max_two min_two max_three min_three max_four min_four   -- for this text's walks alone
set_option linter.unusedVariables false
set_option linter.unusedSimpArgs false
def laws_heldKeyS.l0 : Nat → List (S38) → Int → Int → Option (Int)
 | 0, _, _, _ => none
 | k + 1, x0, x1, x5 => if x5 < (x0.length : Int) then (if 0 ≤ x5 then (if ((rd_T38 x0 x5).f0) = x1 then (if ((rd_T38 x0 x5).f1) = (wrap64 (x1 + 1)) then (if ((rd_T38 x0 x5).f2) = (wrap64 ((wrap64 (x1 + 1)) + 1)) then (if ((rd_T38 x0 x5).f3) = (wrap64 ((wrap64 ((wrap64 (x1 + 1)) + 1)) + 1)) then (if ((rd_T38 x0 x5).f4) = (wrap64 ((wrap64 ((wrap64 ((wrap64 (x1 + 1)) + 1)) + 1)) + 1)) then (laws_heldKeyS.l0 k x0 (wrap64 ((wrap64 ((wrap64 ((wrap64 ((wrap64 (x1 + 1)) + 1)) + 1)) + 1)) + 1)) (wrap64 (x5 + 1))) else (some (-1))) else (some (-1))) else (some (-1))) else (some (-1))) else (some (-1))) else (none)) else (some x1)
def laws_heldKeyS.f (k : Nat) (l0 : List (S38)) (a1 : Int) : Option (Int) := laws_heldKeyS.l0 k l0 a1 0
set_option maxHeartbeats 8000000 in
set_option maxRecDepth 100000 in
theorem laws_heldKeyS.calls (k : Nat) (A0 : Option Addr) (c0 : Nat) (l0 : List (S38)) (a1 : Int) (r : Int) (w : World) (hr0 : Kd.C k38 w A0 l0.length l0) (hc0 : l0.length ≤ c0) (h : laws_heldKeyS.f k l0 a1 = some r) :
  Calls Try.prog 96 #[.slice A0 l0.length c0, .int .i64 a1] w fun e w' => e = .returned (.int .i64 r) ∧ bH w w' := by
 have HR0 := aA.mk hr0
 have HC0 := aA.mk hc0
 clear hr0 hc0
 have H : (laws_heldKeyS.l0 k l0 a1 0) = some r := h
 clear h
 have H' := aA.mk H
 clear H
 go_enter Try.func96, Try.ntmps96
 go_wp2
 go_loopg [1, 5] k (fun kq v1 v5 w' => ∃ (x1_1 : Int) (x5_1 : Int), v1 = .int .i64 x1_1 ∧ v5 = .int .i64 x5_1 ∧ aA (laws_heldKeyS.l0 kq l0 x1_1 x5_1 = some r) ∧ aA (kq ≤ k) ∧ bH w w')
 case atStart => exact ⟨(a1), (0), (by first | rfl | (simp; done) | (simp [*]; done)), (by first | rfl | (simp; done) | (simp [*]; done)), H', ⟨Nat.le_refl _⟩, by repeat (first | exact bH.refl _ | apply bH.step)⟩
 case round =>
  clear H'
  try clear p2
  obtain ⟨x1_1, x5_1, rfl, rfl, HA, HK1, ⟨m1, rfl⟩⟩ := hrel
  cases gk with
  | zero => exact absurd HA.out (by simp [laws_heldKeyS.l0])
  | succ k1 =>
   have H := HA.out
   clear HA
   simp only [laws_heldKeyS.l0] at H
   by_cases c3 : x5_1 < (l0.length : Int)
   ·rw [if_pos c3] at H
    have c3b0 : decide (x5_1 < (l0.length : Int)) = true := decide_eq_true c3
    clear c3
    by_cases c4 : 0 ≤ x5_1
    ·rw [if_pos c4] at H
     have c4b0 : decide (0 ≤ x5_1) = true := decide_eq_true c4
     clear c4
     by_cases c5 : ((rd_T38 l0 x5_1).f0) = x1_1
     ·rw [if_pos c5] at H
      have c5b0 : (((rd_T38 l0 x5_1).f0) == x1_1) = true := beq_iff_eq.mpr c5
      have c5b1 : (((rd_T38 l0 x5_1).f0) != x1_1) = false := bne_eq_false_iff_eq.mpr c5
      clear c5
      by_cases c6 : ((rd_T38 l0 x5_1).f1) = (wrap64 (x1_1 + 1))
      ·rw [if_pos c6] at H
       have c6b0 : (((rd_T38 l0 x5_1).f1) == (wrap64 (x1_1 + 1))) = true := beq_iff_eq.mpr c6
       have c6b1 : (((rd_T38 l0 x5_1).f1) != (wrap64 (x1_1 + 1))) = false := bne_eq_false_iff_eq.mpr c6
       clear c6
       by_cases c7 : ((rd_T38 l0 x5_1).f2) = (wrap64 ((wrap64 (x1_1 + 1)) + 1))
       ·rw [if_pos c7] at H
        have c7b0 : (((rd_T38 l0 x5_1).f2) == (wrap64 ((wrap64 (x1_1 + 1)) + 1))) = true := beq_iff_eq.mpr c7
        have c7b1 : (((rd_T38 l0 x5_1).f2) != (wrap64 ((wrap64 (x1_1 + 1)) + 1))) = false := bne_eq_false_iff_eq.mpr c7
        clear c7
        by_cases c8 : ((rd_T38 l0 x5_1).f3) = (wrap64 ((wrap64 ((wrap64 (x1_1 + 1)) + 1)) + 1))
        ·rw [if_pos c8] at H
         have c8b0 : (((rd_T38 l0 x5_1).f3) == (wrap64 ((wrap64 ((wrap64 (x1_1 + 1)) + 1)) + 1))) = true := beq_iff_eq.mpr c8
         have c8b1 : (((rd_T38 l0 x5_1).f3) != (wrap64 ((wrap64 ((wrap64 (x1_1 + 1)) + 1)) + 1))) = false := bne_eq_false_iff_eq.mpr c8
         clear c8
         by_cases c9 : ((rd_T38 l0 x5_1).f4) = (wrap64 ((wrap64 ((wrap64 ((wrap64 (x1_1 + 1)) + 1)) + 1)) + 1))
         ·rw [if_pos c9] at H
          have c9b0 : (((rd_T38 l0 x5_1).f4) == (wrap64 ((wrap64 ((wrap64 ((wrap64 (x1_1 + 1)) + 1)) + 1)) + 1))) = true := beq_iff_eq.mpr c9
          have c9b1 : (((rd_T38 l0 x5_1).f4) != (wrap64 ((wrap64 ((wrap64 ((wrap64 (x1_1 + 1)) + 1)) + 1)) + 1))) = false := bne_eq_false_iff_eq.mpr c9
          clear c9
          have H' := aA.mk H
          clear H
          have p421 : 0 ≤ (x5_1 : Int) := lE (by first | (with_reducible assumption) | assumption)
          have q421 : x5_1 < (l0.length : Int) := lE (by first | (with_reducible assumption) | assumption)
          obtain ⟨ad421, e421, hx421_0, hx421_1, hx421_2, hx421_3, hx421_4⟩ := at_T38 HR0.out x5_1 p421 q421
          cases e421
          replace p421 := eq_true p421
          replace q421 := eq_true q421
          have p422 : 0 ≤ (x5_1 : Int) := lE (by first | (with_reducible assumption) | assumption)
          have q422 : x5_1 < (l0.length : Int) := lE (by first | (with_reducible assumption) | assumption)
          obtain ⟨ad422, e422, hx422_0, hx422_1, hx422_2, hx422_3, hx422_4⟩ := at_T38 HR0.out x5_1 p422 q422
          obtain rfl : ad421 = ad422 := (by injection e422)
          replace p422 := eq_true p422
          replace q422 := eq_true q422
          have p423 : 0 ≤ (x5_1 : Int) := lE (by first | (with_reducible assumption) | assumption)
          have q423 : x5_1 < (l0.length : Int) := lE (by first | (with_reducible assumption) | assumption)
          obtain ⟨ad423, e423, hx423_0, hx423_1, hx423_2, hx423_3, hx423_4⟩ := at_T38 HR0.out x5_1 p423 q423
          obtain rfl : ad421 = ad423 := (by injection e423)
          replace p423 := eq_true p423
          replace q423 := eq_true q423
          have p424 : 0 ≤ (x5_1 : Int) := lE (by first | (with_reducible assumption) | assumption)
          have q424 : x5_1 < (l0.length : Int) := lE (by first | (with_reducible assumption) | assumption)
          obtain ⟨ad424, e424, hx424_0, hx424_1, hx424_2, hx424_3, hx424_4⟩ := at_T38 HR0.out x5_1 p424 q424
          obtain rfl : ad421 = ad424 := (by injection e424)
          replace p424 := eq_true p424
          replace q424 := eq_true q424
          have p425 : 0 ≤ (x5_1 : Int) := lE (by first | (with_reducible assumption) | assumption)
          have q425 : x5_1 < (l0.length : Int) := lE (by first | (with_reducible assumption) | assumption)
          obtain ⟨ad425, e425, hx425_0, hx425_1, hx425_2, hx425_3, hx425_4⟩ := at_T38 HR0.out x5_1 p425 q425
          obtain rfl : ad421 = ad425 := (by injection e425)
          replace p425 := eq_true p425
          replace q425 := eq_true q425
          go_wp2
          go_roundg k1
          case measure => have := HK1.out; omega
          case rel => exact ⟨(wrap64 ((wrap64 ((wrap64 ((wrap64 ((wrap64 (x1_1 + 1)) + 1)) + 1)) + 1)) + 1)), (wrap64 (x5_1 + 1)), (by first | rfl | (simp; done) | (simp [*]; done)), (by first | rfl | (simp; done) | (simp [*]; done)), H', ⟨by have := HK1.out; omega⟩, by repeat (first | exact bH.refl _ | apply bH.step)⟩
         ·rw [if_neg c9] at H
          have c9b0 : (((rd_T38 l0 x5_1).f4) == (wrap64 ((wrap64 ((wrap64 ((wrap64 (x1_1 + 1)) + 1)) + 1)) + 1))) = false := beq_eq_false_iff_ne.mpr c9
          have c9b1 : (((rd_T38 l0 x5_1).f4) != (wrap64 ((wrap64 ((wrap64 ((wrap64 (x1_1 + 1)) + 1)) + 1)) + 1))) = true := bne_iff_ne.mpr c9
          obtain rfl := Option.some.inj H
          have p421 : 0 ≤ (x5_1 : Int) := lE (by first | (with_reducible assumption) | assumption)
          have q421 : x5_1 < (l0.length : Int) := lE (by first | (with_reducible assumption) | assumption)
          obtain ⟨ad421, e421, hx421_0, hx421_1, hx421_2, hx421_3, hx421_4⟩ := at_T38 HR0.out x5_1 p421 q421
          cases e421
          replace p421 := eq_true p421
          replace q421 := eq_true q421
          have p422 : 0 ≤ (x5_1 : Int) := lE (by first | (with_reducible assumption) | assumption)
          have q422 : x5_1 < (l0.length : Int) := lE (by first | (with_reducible assumption) | assumption)
          obtain ⟨ad422, e422, hx422_0, hx422_1, hx422_2, hx422_3, hx422_4⟩ := at_T38 HR0.out x5_1 p422 q422
          obtain rfl : ad421 = ad422 := (by injection e422)
          replace p422 := eq_true p422
          replace q422 := eq_true q422
          have p423 : 0 ≤ (x5_1 : Int) := lE (by first | (with_reducible assumption) | assumption)
          have q423 : x5_1 < (l0.length : Int) := lE (by first | (with_reducible assumption) | assumption)
          obtain ⟨ad423, e423, hx423_0, hx423_1, hx423_2, hx423_3, hx423_4⟩ := at_T38 HR0.out x5_1 p423 q423
          obtain rfl : ad421 = ad423 := (by injection e423)
          replace p423 := eq_true p423
          replace q423 := eq_true q423
          have p424 : 0 ≤ (x5_1 : Int) := lE (by first | (with_reducible assumption) | assumption)
          have q424 : x5_1 < (l0.length : Int) := lE (by first | (with_reducible assumption) | assumption)
          obtain ⟨ad424, e424, hx424_0, hx424_1, hx424_2, hx424_3, hx424_4⟩ := at_T38 HR0.out x5_1 p424 q424
          obtain rfl : ad421 = ad424 := (by injection e424)
          replace p424 := eq_true p424
          replace q424 := eq_true q424
          have p425 : 0 ≤ (x5_1 : Int) := lE (by first | (with_reducible assumption) | assumption)
          have q425 : x5_1 < (l0.length : Int) := lE (by first | (with_reducible assumption) | assumption)
          obtain ⟨ad425, e425, hx425_0, hx425_1, hx425_2, hx425_3, hx425_4⟩ := at_T38 HR0.out x5_1 p425 q425
          obtain rfl : ad421 = ad425 := (by injection e425)
          replace p425 := eq_true p425
          replace q425 := eq_true q425
          go_wp2
          go_ret
          exact ⟨by first | rfl | (simp; done) | (simp [*]; done), by repeat (first | exact bH.refl _ | apply bH.step)⟩
        ·rw [if_neg c8] at H
         have c8b0 : (((rd_T38 l0 x5_1).f3) == (wrap64 ((wrap64 ((wrap64 (x1_1 + 1)) + 1)) + 1))) = false := beq_eq_false_iff_ne.mpr c8
         have c8b1 : (((rd_T38 l0 x5_1).f3) != (wrap64 ((wrap64 ((wrap64 (x1_1 + 1)) + 1)) + 1))) = true := bne_iff_ne.mpr c8
         obtain rfl := Option.some.inj H
         have p421 : 0 ≤ (x5_1 : Int) := lE (by first | (with_reducible assumption) | assumption)
         have q421 : x5_1 < (l0.length : Int) := lE (by first | (with_reducible assumption) | assumption)
         obtain ⟨ad421, e421, hx421_0, hx421_1, hx421_2, hx421_3, hx421_4⟩ := at_T38 HR0.out x5_1 p421 q421
         cases e421
         replace p421 := eq_true p421
         replace q421 := eq_true q421
         have p422 : 0 ≤ (x5_1 : Int) := lE (by first | (with_reducible assumption) | assumption)
         have q422 : x5_1 < (l0.length : Int) := lE (by first | (with_reducible assumption) | assumption)
         obtain ⟨ad422, e422, hx422_0, hx422_1, hx422_2, hx422_3, hx422_4⟩ := at_T38 HR0.out x5_1 p422 q422
         obtain rfl : ad421 = ad422 := (by injection e422)
         replace p422 := eq_true p422
         replace q422 := eq_true q422
         have p423 : 0 ≤ (x5_1 : Int) := lE (by first | (with_reducible assumption) | assumption)
         have q423 : x5_1 < (l0.length : Int) := lE (by first | (with_reducible assumption) | assumption)
         obtain ⟨ad423, e423, hx423_0, hx423_1, hx423_2, hx423_3, hx423_4⟩ := at_T38 HR0.out x5_1 p423 q423
         obtain rfl : ad421 = ad423 := (by injection e423)
         replace p423 := eq_true p423
         replace q423 := eq_true q423
         have p424 : 0 ≤ (x5_1 : Int) := lE (by first | (with_reducible assumption) | assumption)
         have q424 : x5_1 < (l0.length : Int) := lE (by first | (with_reducible assumption) | assumption)
         obtain ⟨ad424, e424, hx424_0, hx424_1, hx424_2, hx424_3, hx424_4⟩ := at_T38 HR0.out x5_1 p424 q424
         obtain rfl : ad421 = ad424 := (by injection e424)
         replace p424 := eq_true p424
         replace q424 := eq_true q424
         go_wp2
         go_ret
         exact ⟨by first | rfl | (simp; done) | (simp [*]; done), by repeat (first | exact bH.refl _ | apply bH.step)⟩
       ·rw [if_neg c7] at H
        have c7b0 : (((rd_T38 l0 x5_1).f2) == (wrap64 ((wrap64 (x1_1 + 1)) + 1))) = false := beq_eq_false_iff_ne.mpr c7
        have c7b1 : (((rd_T38 l0 x5_1).f2) != (wrap64 ((wrap64 (x1_1 + 1)) + 1))) = true := bne_iff_ne.mpr c7
        obtain rfl := Option.some.inj H
        have p421 : 0 ≤ (x5_1 : Int) := lE (by first | (with_reducible assumption) | assumption)
        have q421 : x5_1 < (l0.length : Int) := lE (by first | (with_reducible assumption) | assumption)
        obtain ⟨ad421, e421, hx421_0, hx421_1, hx421_2, hx421_3, hx421_4⟩ := at_T38 HR0.out x5_1 p421 q421
        cases e421
        replace p421 := eq_true p421
        replace q421 := eq_true q421
        have p422 : 0 ≤ (x5_1 : Int) := lE (by first | (with_reducible assumption) | assumption)
        have q422 : x5_1 < (l0.length : Int) := lE (by first | (with_reducible assumption) | assumption)
        obtain ⟨ad422, e422, hx422_0, hx422_1, hx422_2, hx422_3, hx422_4⟩ := at_T38 HR0.out x5_1 p422 q422
        obtain rfl : ad421 = ad422 := (by injection e422)
        replace p422 := eq_true p422
        replace q422 := eq_true q422
        have p423 : 0 ≤ (x5_1 : Int) := lE (by first | (with_reducible assumption) | assumption)
        have q423 : x5_1 < (l0.length : Int) := lE (by first | (with_reducible assumption) | assumption)
        obtain ⟨ad423, e423, hx423_0, hx423_1, hx423_2, hx423_3, hx423_4⟩ := at_T38 HR0.out x5_1 p423 q423
        obtain rfl : ad421 = ad423 := (by injection e423)
        replace p423 := eq_true p423
        replace q423 := eq_true q423
        go_wp2
        go_ret
        exact ⟨by first | rfl | (simp; done) | (simp [*]; done), by repeat (first | exact bH.refl _ | apply bH.step)⟩
      ·rw [if_neg c6] at H
       have c6b0 : (((rd_T38 l0 x5_1).f1) == (wrap64 (x1_1 + 1))) = false := beq_eq_false_iff_ne.mpr c6
       have c6b1 : (((rd_T38 l0 x5_1).f1) != (wrap64 (x1_1 + 1))) = true := bne_iff_ne.mpr c6
       obtain rfl := Option.some.inj H
       have p421 : 0 ≤ (x5_1 : Int) := lE (by first | (with_reducible assumption) | assumption)
       have q421 : x5_1 < (l0.length : Int) := lE (by first | (with_reducible assumption) | assumption)
       obtain ⟨ad421, e421, hx421_0, hx421_1, hx421_2, hx421_3, hx421_4⟩ := at_T38 HR0.out x5_1 p421 q421
       cases e421
       replace p421 := eq_true p421
       replace q421 := eq_true q421
       have p422 : 0 ≤ (x5_1 : Int) := lE (by first | (with_reducible assumption) | assumption)
       have q422 : x5_1 < (l0.length : Int) := lE (by first | (with_reducible assumption) | assumption)
       obtain ⟨ad422, e422, hx422_0, hx422_1, hx422_2, hx422_3, hx422_4⟩ := at_T38 HR0.out x5_1 p422 q422
       obtain rfl : ad421 = ad422 := (by injection e422)
       replace p422 := eq_true p422
       replace q422 := eq_true q422
       go_wp2
       go_ret
       exact ⟨by first | rfl | (simp; done) | (simp [*]; done), by repeat (first | exact bH.refl _ | apply bH.step)⟩
     ·rw [if_neg c5] at H
      have c5b0 : (((rd_T38 l0 x5_1).f0) == x1_1) = false := beq_eq_false_iff_ne.mpr c5
      have c5b1 : (((rd_T38 l0 x5_1).f0) != x1_1) = true := bne_iff_ne.mpr c5
      obtain rfl := Option.some.inj H
      have p421 : 0 ≤ (x5_1 : Int) := lE (by first | (with_reducible assumption) | assumption)
      have q421 : x5_1 < (l0.length : Int) := lE (by first | (with_reducible assumption) | assumption)
      obtain ⟨ad421, e421, hx421_0, hx421_1, hx421_2, hx421_3, hx421_4⟩ := at_T38 HR0.out x5_1 p421 q421
      cases e421
      replace p421 := eq_true p421
      replace q421 := eq_true q421
      go_wp2
      go_ret
      exact ⟨by first | rfl | (simp; done) | (simp [*]; done), by repeat (first | exact bH.refl _ | apply bH.step)⟩
    ·rw [if_neg c4] at H
     exact absurd H (by simp)
   ·rw [if_neg c3] at H
    have c3b0 : decide (x5_1 < (l0.length : Int)) = false := decide_eq_false c3
    clear c3
    obtain rfl := Option.some.inj H
    go_wp2
    go_ret
    exact ⟨by first | rfl | (simp; done) | (simp [*]; done), by repeat (first | exact bH.refl _ | apply bH.step)⟩
def laws_heldKeySS.l0 : Nat → List (List (S38)) → Int → Int → Option (Int)
 | 0, _, _, _ => none
 | k + 1, x0, x1, x5 => if x5 < (x0.length : Int) then (if 0 ≤ x5 then ((laws_heldKeyS.f k (rd_L6 x0 x5) x1).bind fun t427 => (if t427 < 0 then (some (-1)) else (laws_heldKeySS.l0 k x0 t427 (wrap64 (x5 + 1))))) else (none)) else (some x1)
def laws_heldKeySS.f (k : Nat) (l0 : List (List (S38))) (a1 : Int) : Option (Int) := laws_heldKeySS.l0 k l0 a1 0
set_option maxHeartbeats 8000000 in
set_option maxRecDepth 100000 in
theorem laws_heldKeySS.calls (k : Nat) (A0 : Option Addr) (c0 : Nat) (l0 : List (List (S38))) (a1 : Int) (r : Int) (w : World) (hr0 : Kd.C (Kd.slice 38 k38) w A0 l0.length l0) (hc0 : l0.length ≤ c0) (h : laws_heldKeySS.f k l0 a1 = some r) :
  Calls Try.prog 73 #[.slice A0 l0.length c0, .int .i64 a1] w fun e w' => e = .returned (.int .i64 r) ∧ bH w w' := by
 have HR0 := aA.mk hr0
 have HC0 := aA.mk hc0
 clear hr0 hc0
 have H : (laws_heldKeySS.l0 k l0 a1 0) = some r := h
 clear h
 have H' := aA.mk H
 clear H
 go_enter Try.func73, Try.ntmps73
 go_wp2
 go_loopg [1, 5] k (fun kq v1 v5 w' => ∃ (x1_1 : Int) (x5_1 : Int), v1 = .int .i64 x1_1 ∧ v5 = .int .i64 x5_1 ∧ aA (laws_heldKeySS.l0 kq l0 x1_1 x5_1 = some r) ∧ aA (kq ≤ k) ∧ bH w w')
 case atStart => exact ⟨(a1), (0), (by first | rfl | (simp; done) | (simp [*]; done)), (by first | rfl | (simp; done) | (simp [*]; done)), H', ⟨Nat.le_refl _⟩, by repeat (first | exact bH.refl _ | apply bH.step)⟩
 case round =>
  clear H'
  try clear p2
  obtain ⟨x1_1, x5_1, rfl, rfl, HA, HK1, ⟨m1, rfl⟩⟩ := hrel
  cases gk with
  | zero => exact absurd HA.out (by simp [laws_heldKeySS.l0])
  | succ k1 =>
   have H := HA.out
   clear HA
   simp only [laws_heldKeySS.l0] at H
   by_cases c3 : x5_1 < (l0.length : Int)
   ·rw [if_pos c3] at H
    have c3b0 : decide (x5_1 < (l0.length : Int)) = true := decide_eq_true c3
    clear c3
    by_cases c4 : 0 ≤ x5_1
    ·rw [if_pos c4] at H
     have c4b0 : decide (0 ≤ x5_1) = true := decide_eq_true c4
     clear c4
     replace H := lF H
     obtain ⟨t427, A50, H⟩ := H
     replace H : (if t427 < 0 then (some (-1)) else (laws_heldKeySS.l0 k1 l0 t427 (wrap64 (x5_1 + 1)))) = some r := H
     have A5 := aA.mk A50
     clear A50
     by_cases c6 : t427 < 0
     ·rw [if_pos c6] at H
      have c6b0 : decide (t427 < 0) = true := decide_eq_true c6
      clear c6
      obtain rfl := Option.some.inj H
      have p426 : 0 ≤ (x5_1 : Int) := lE (by first | (with_reducible assumption) | assumption)
      have q426 : x5_1 < (l0.length : Int) := lE (by first | (with_reducible assumption) | assumption)
      obtain ⟨ad426, A426_0, c426_0, e426, hx426_0, hl426_0, hi426_0⟩ := at_L6 HR0.out x5_1 p426 q426
      cases e426
      have HR426_0 := aA.mk hi426_0
      have HC426_0 := aA.mk hl426_0
      clear hi426_0 hl426_0
      replace p426 := eq_true p426
      replace q426 := eq_true q426
      go_wp2_with (first | ((with_reducible refine bB (f := 96) rfl ?_); refine bP (some 17) rfl rfl Try.func96 (by kernel_rfl) rfl #[.slice A426_0 (rd_L6 l0 x5_1).length c426_0, .int .i64 x1_1] rfl (by (try simp only [List.map_toArray, List.map_cons, List.map_nil]); first | done | rfl | (simp only [List.length_drop, List.length_take]; rfl)) ?_; (with_reducible refine (laws_heldKeyS.calls k1 _ _ (rd_L6 l0 x5_1) x1_1 t427 _ ?side1 ?side2 A5.out).mono ?_); (case side1 => repeat (first | exact HR426_0.out | (with_reducible refine Kd.bM ?_ _) | (with_reducible refine Kd.bN ?_ _) | (with_reducible refine Kd.bR ?_))); (case side2 => exact HC426_0.out); rintro e w' ⟨rfl, ⟨nd, rfl⟩⟩; refine ⟨_, rfl, ?_⟩))
      go_ret
      exact ⟨by first | rfl | (simp; done) | (simp [*]; done), by repeat (first | exact bH.refl _ | apply bH.step)⟩
     ·rw [if_neg c6] at H
      have c6b0 : decide (t427 < 0) = false := decide_eq_false c6
      clear c6
      have H' := aA.mk H
      clear H
      have p426 : 0 ≤ (x5_1 : Int) := lE (by first | (with_reducible assumption) | assumption)
      have q426 : x5_1 < (l0.length : Int) := lE (by first | (with_reducible assumption) | assumption)
      obtain ⟨ad426, A426_0, c426_0, e426, hx426_0, hl426_0, hi426_0⟩ := at_L6 HR0.out x5_1 p426 q426
      cases e426
      have HR426_0 := aA.mk hi426_0
      have HC426_0 := aA.mk hl426_0
      clear hi426_0 hl426_0
      replace p426 := eq_true p426
      replace q426 := eq_true q426
      go_wp2_with (first | ((with_reducible refine bB (f := 96) rfl ?_); refine bP (some 17) rfl rfl Try.func96 (by kernel_rfl) rfl #[.slice A426_0 (rd_L6 l0 x5_1).length c426_0, .int .i64 x1_1] rfl (by (try simp only [List.map_toArray, List.map_cons, List.map_nil]); first | done | rfl | (simp only [List.length_drop, List.length_take]; rfl)) ?_; (with_reducible refine (laws_heldKeyS.calls k1 _ _ (rd_L6 l0 x5_1) x1_1 t427 _ ?side1 ?side2 A5.out).mono ?_); (case side1 => repeat (first | exact HR426_0.out | (with_reducible refine Kd.bM ?_ _) | (with_reducible refine Kd.bN ?_ _) | (with_reducible refine Kd.bR ?_))); (case side2 => exact HC426_0.out); rintro e w' ⟨rfl, ⟨nd, rfl⟩⟩; refine ⟨_, rfl, ?_⟩))
      go_roundg k1
      case measure => have := HK1.out; omega
      case rel => exact ⟨(t427), (wrap64 (x5_1 + 1)), (by first | rfl | (simp; done) | (simp [*]; done)), (by first | rfl | (simp; done) | (simp [*]; done)), H', ⟨by have := HK1.out; omega⟩, by repeat (first | exact bH.refl _ | apply bH.step)⟩
    ·rw [if_neg c4] at H
     exact absurd H (by simp)
   ·rw [if_neg c3] at H
    have c3b0 : decide (x5_1 < (l0.length : Int)) = false := decide_eq_false c3
    clear c3
    obtain rfl := Option.some.inj H
    go_wp2
    go_ret
    exact ⟨by first | rfl | (simp; done) | (simp [*]; done), by repeat (first | exact bH.refl _ | apply bH.step)⟩
def laws_heldNodeS.l0 : Nat → List (S59) → Int → Int → Option (Int)
 | 0, _, _, _ => none
 | k + 1, x0, x1, x5 => if x5 < (x0.length : Int) then (if 0 ≤ x5 then ((laws_heldKeySS.f k ((rd_T59 x0 x5).f0) x1).bind fun t429 => (if t429 < 0 then (some (-1)) else (laws_heldNodeS.l0 k x0 t429 (wrap64 (x5 + 1))))) else (none)) else (some x1)
def laws_heldNodeS.f (k : Nat) (l0 : List (S59)) (a1 : Int) : Option (Int) := laws_heldNodeS.l0 k l0 a1 0
set_option maxHeartbeats 8000000 in
set_option maxRecDepth 100000 in
theorem laws_heldNodeS.calls (k : Nat) (A0 : Option Addr) (c0 : Nat) (l0 : List (S59)) (a1 : Int) (r : Int) (w : World) (hr0 : Kd.C k59 w A0 l0.length l0) (hc0 : l0.length ≤ c0) (h : laws_heldNodeS.f k l0 a1 = some r) :
  Calls Try.prog 39 #[.slice A0 l0.length c0, .int .i64 a1] w fun e w' => e = .returned (.int .i64 r) ∧ bH w w' := by
 have HR0 := aA.mk hr0
 have HC0 := aA.mk hc0
 clear hr0 hc0
 have H : (laws_heldNodeS.l0 k l0 a1 0) = some r := h
 clear h
 have H' := aA.mk H
 clear H
 go_enter Try.func39, Try.ntmps39
 go_wp2
 go_loopg [1, 5] k (fun kq v1 v5 w' => ∃ (x1_1 : Int) (x5_1 : Int), v1 = .int .i64 x1_1 ∧ v5 = .int .i64 x5_1 ∧ aA (laws_heldNodeS.l0 kq l0 x1_1 x5_1 = some r) ∧ aA (kq ≤ k) ∧ bH w w')
 case atStart => exact ⟨(a1), (0), (by first | rfl | (simp; done) | (simp [*]; done)), (by first | rfl | (simp; done) | (simp [*]; done)), H', ⟨Nat.le_refl _⟩, by repeat (first | exact bH.refl _ | apply bH.step)⟩
 case round =>
  clear H'
  try clear p2
  obtain ⟨x1_1, x5_1, rfl, rfl, HA, HK1, ⟨m1, rfl⟩⟩ := hrel
  cases gk with
  | zero => exact absurd HA.out (by simp [laws_heldNodeS.l0])
  | succ k1 =>
   have H := HA.out
   clear HA
   simp only [laws_heldNodeS.l0] at H
   by_cases c3 : x5_1 < (l0.length : Int)
   ·rw [if_pos c3] at H
    have c3b0 : decide (x5_1 < (l0.length : Int)) = true := decide_eq_true c3
    clear c3
    by_cases c4 : 0 ≤ x5_1
    ·rw [if_pos c4] at H
     have c4b0 : decide (0 ≤ x5_1) = true := decide_eq_true c4
     clear c4
     replace H := lF H
     obtain ⟨t429, A50, H⟩ := H
     replace H : (if t429 < 0 then (some (-1)) else (laws_heldNodeS.l0 k1 l0 t429 (wrap64 (x5_1 + 1)))) = some r := H
     have A5 := aA.mk A50
     clear A50
     by_cases c6 : t429 < 0
     ·rw [if_pos c6] at H
      have c6b0 : decide (t429 < 0) = true := decide_eq_true c6
      clear c6
      obtain rfl := Option.some.inj H
      have p428 : 0 ≤ (x5_1 : Int) := lE (by first | (with_reducible assumption) | assumption)
      have q428 : x5_1 < (l0.length : Int) := lE (by first | (with_reducible assumption) | assumption)
      obtain ⟨ad428, A428_0, c428_0, e428, hx428_0, hl428_0, hi428_0⟩ := at_T59 HR0.out x5_1 p428 q428
      cases e428
      have HR428_0 := aA.mk hi428_0
      have HC428_0 := aA.mk hl428_0
      clear hi428_0 hl428_0
      replace p428 := eq_true p428
      replace q428 := eq_true q428
      go_wp2_with (first | ((with_reducible refine bB (f := 73) rfl ?_); refine bP (some 18) rfl rfl Try.func73 (by kernel_rfl) rfl #[.slice A428_0 ((rd_T59 l0 x5_1).f0).length c428_0, .int .i64 x1_1] rfl (by (try simp only [List.map_toArray, List.map_cons, List.map_nil]); first | done | rfl | (simp only [List.length_drop, List.length_take]; rfl)) ?_; (with_reducible refine (laws_heldKeySS.calls k1 _ _ ((rd_T59 l0 x5_1).f0) x1_1 t429 _ ?side1 ?side2 A5.out).mono ?_); (case side1 => repeat (first | exact HR428_0.out | (with_reducible refine Kd.bM ?_ _) | (with_reducible refine Kd.bN ?_ _) | (with_reducible refine Kd.bR ?_))); (case side2 => exact HC428_0.out); rintro e w' ⟨rfl, ⟨nd, rfl⟩⟩; refine ⟨_, rfl, ?_⟩))
      go_ret
      exact ⟨by first | rfl | (simp; done) | (simp [*]; done), by repeat (first | exact bH.refl _ | apply bH.step)⟩
     ·rw [if_neg c6] at H
      have c6b0 : decide (t429 < 0) = false := decide_eq_false c6
      clear c6
      have H' := aA.mk H
      clear H
      have p428 : 0 ≤ (x5_1 : Int) := lE (by first | (with_reducible assumption) | assumption)
      have q428 : x5_1 < (l0.length : Int) := lE (by first | (with_reducible assumption) | assumption)
      obtain ⟨ad428, A428_0, c428_0, e428, hx428_0, hl428_0, hi428_0⟩ := at_T59 HR0.out x5_1 p428 q428
      cases e428
      have HR428_0 := aA.mk hi428_0
      have HC428_0 := aA.mk hl428_0
      clear hi428_0 hl428_0
      replace p428 := eq_true p428
      replace q428 := eq_true q428
      go_wp2_with (first | ((with_reducible refine bB (f := 73) rfl ?_); refine bP (some 18) rfl rfl Try.func73 (by kernel_rfl) rfl #[.slice A428_0 ((rd_T59 l0 x5_1).f0).length c428_0, .int .i64 x1_1] rfl (by (try simp only [List.map_toArray, List.map_cons, List.map_nil]); first | done | rfl | (simp only [List.length_drop, List.length_take]; rfl)) ?_; (with_reducible refine (laws_heldKeySS.calls k1 _ _ ((rd_T59 l0 x5_1).f0) x1_1 t429 _ ?side1 ?side2 A5.out).mono ?_); (case side1 => repeat (first | exact HR428_0.out | (with_reducible refine Kd.bM ?_ _) | (with_reducible refine Kd.bN ?_ _) | (with_reducible refine Kd.bR ?_))); (case side2 => exact HC428_0.out); rintro e w' ⟨rfl, ⟨nd, rfl⟩⟩; refine ⟨_, rfl, ?_⟩))
      go_roundg k1
      case measure => have := HK1.out; omega
      case rel => exact ⟨(t429), (wrap64 (x5_1 + 1)), (by first | rfl | (simp; done) | (simp [*]; done)), (by first | rfl | (simp; done) | (simp [*]; done)), H', ⟨by have := HK1.out; omega⟩, by repeat (first | exact bH.refl _ | apply bH.step)⟩
    ·rw [if_neg c4] at H
     exact absurd H (by simp)
   ·rw [if_neg c3] at H
    have c3b0 : decide (x5_1 < (l0.length : Int)) = false := decide_eq_false c3
    clear c3
    obtain rfl := Option.some.inj H
    go_wp2
    go_ret
    exact ⟨by first | rfl | (simp; done) | (simp [*]; done), by repeat (first | exact bH.refl _ | apply bH.step)⟩
def laws_heldTree.f (k : Nat) (l0_0 : List Int) (l0_1 : List (S59)) (a1 : Int) : Option (Int) := (laws_heldIntS.f k l0_0 a1).bind fun t431 => (if t431 < 0 then (some (-1)) else ((laws_heldNodeS.f k l0_1 t431).bind fun t432 => (if t432 < 0 then (some (-1)) else (some t432))))
set_option maxHeartbeats 8000000 in
set_option maxRecDepth 100000 in
theorem laws_heldTree.calls (k : Nat) (A0_0 : Option Addr) (c0_0 : Nat) (l0_0 : List Int) (A0_1 : Option Addr) (c0_1 : Nat) (l0_1 : List (S59)) (a1 : Int) (r : Int) (w : World) (hr0_0 : Kd.C (Kd.int .i64) w A0_0 l0_0.length l0_0) (hc0_0 : l0_0.length ≤ c0_0) (hr0_1 : Kd.C k59 w A0_1 l0_1.length l0_1) (hc0_1 : l0_1.length ≤ c0_1) (h : laws_heldTree.f k l0_0 l0_1 a1 = some r) :
  Calls Try.prog 12 #[.agg #[.slice A0_0 l0_0.length c0_0, .slice A0_1 l0_1.length c0_1], .int .i64 a1] w fun e w' => e = .returned (.int .i64 r) ∧ Below w.heap.size w w' := by
 have hu29 := Try.underlying29
 have HR0_0 := aA.mk hr0_0
 have HC0_0 := aA.mk hc0_0
 clear hr0_0 hc0_0
 have HR0_1 := aA.mk hr0_1
 have HC0_1 := aA.mk hc0_1
 clear hr0_1 hc0_1
 have HB := aA.mk (Below.refl w.heap.size w)
 have H : ((laws_heldIntS.f k l0_0 a1).bind fun t431 => (if t431 < 0 then (some (-1)) else ((laws_heldNodeS.f k l0_1 t431).bind fun t432 => (if t432 < 0 then (some (-1)) else (some t432))))) = some r := h
 clear h
 replace H := lF H
 obtain ⟨t431, A30, H⟩ := H
 replace H : (if t431 < 0 then (some (-1)) else ((laws_heldNodeS.f k l0_1 t431).bind fun t432 => (if t432 < 0 then (some (-1)) else (some t432)))) = some r := H
 have A3 := aA.mk A30
 clear A30
 by_cases c4 : t431 < 0
 ·rw [if_pos c4] at H
  have c4b0 : decide (t431 < 0) = true := decide_eq_true c4
  clear c4
  obtain rfl := Option.some.inj H
  go_enter Try.func12, Try.ntmps12
  go_wp2_with (first | ((with_reducible refine aW (N := 2) rfl ?_); refine aX ?hg (N := 2) ?hd (cs := #[.slice A0_0 l0_0.length c0_0, .slice A0_1 l0_1.length c0_1]) (t := 29) ?hr ?_; (case hd => rfl); (case hg => rfl); (case hr => first | (go_simp; done) | (go_simp; rfl)); intro gb430 hg w5 hbox hb; have n0_ := aA.mk (aU (by repeat (first | (with_reducible first | exact HB.out | apply aH | apply aC | apply aG) | exact HB.out)) hb); have n1_ := aA.mk (hbox); have n2_ := aA.mk ((by rw [hg]; exact (aT (by repeat (first | (with_reducible first | exact HB.out | apply aH | apply aC | apply aG) | exact HB.out))) : w.heap.size ≤ gb430)); have n3_ := aA.mk ((by rw [hg]; exact (aT (by repeat (first | (with_reducible first | exact HB.out | apply aH | apply aC | apply aG) | exact HB.out))) : w.heap.size ≤ gb430)); clear HB; have HB := n0_; have BK430 := n1_; have GW430 := n2_; have GE430 := n3_; clear n0_ n1_ n2_ n3_; clear hb hbox hg; have hcz6_0 : w5.cell? ⟨gb430, 0, none⟩ = some (.slice A0_0 l0_0.length c0_0) := (aE BK430.out 0).trans rfl; have hcz6_1 : w5.cell? ⟨gb430, 1, none⟩ = some (.slice A0_1 l0_1.length c0_1) := (aE BK430.out 1).trans rfl; have hfz6_0 := aD BK430.out 0; have hfz6_1 := aD BK430.out 1) | ((with_reducible refine bB (f := 38) rfl ?_); refine bP (some 8) rfl rfl Try.func38 (by kernel_rfl) rfl #[.slice A0_0 l0_0.length c0_0, .int .i64 a1] rfl (by (try simp only [List.map_toArray, List.map_cons, List.map_nil]); first | done | rfl | (simp only [List.length_drop, List.length_take]; rfl)) ?_; (with_reducible refine (laws_heldIntS.calls k _ _ l0_0 a1 t431 _ ?side1 ?side2 A3.out).mono ?_); (case side1 => repeat (first | exact (Kd.bJ HR0_0.out HB.out) | (with_reducible refine Kd.bM ?_ _) | (with_reducible refine Kd.bN ?_ _) | (with_reducible refine Kd.bR ?_))); (case side2 => exact HC0_0.out); rintro e w' ⟨rfl, ⟨nd, rfl⟩⟩; refine ⟨_, rfl, ?_⟩))
  go_ret
  exact ⟨by first | rfl | (simp [errW_none, errW_some] <;> rfl) | (simp [*, errW_none, errW_some] <;> rfl), by repeat (first | (with_reducible first | exact HB.out | apply aH | apply aC | apply aG | refine aJ ?_ GE430.out) | exact HB.out)⟩
 ·rw [if_neg c4] at H
  have c4b0 : decide (t431 < 0) = false := decide_eq_false c4
  clear c4
  replace H := lF H
  obtain ⟨t432, A70, H⟩ := H
  replace H : (if t432 < 0 then (some (-1)) else (some t432)) = some r := H
  have A7 := aA.mk A70
  clear A70
  by_cases c8 : t432 < 0
  ·rw [if_pos c8] at H
   have c8b0 : decide (t432 < 0) = true := decide_eq_true c8
   clear c8
   obtain rfl := Option.some.inj H
   go_enter Try.func12, Try.ntmps12
   go_wp2_with (first | ((with_reducible refine aW (N := 2) rfl ?_); refine aX ?hg (N := 2) ?hd (cs := #[.slice A0_0 l0_0.length c0_0, .slice A0_1 l0_1.length c0_1]) (t := 29) ?hr ?_; (case hd => rfl); (case hg => rfl); (case hr => first | (go_simp; done) | (go_simp; rfl)); intro gb430 hg w9 hbox hb; have n0_ := aA.mk (aU (by repeat (first | (with_reducible first | exact HB.out | apply aH | apply aC | apply aG) | exact HB.out)) hb); have n1_ := aA.mk (hbox); have n2_ := aA.mk ((by rw [hg]; exact (aT (by repeat (first | (with_reducible first | exact HB.out | apply aH | apply aC | apply aG) | exact HB.out))) : w.heap.size ≤ gb430)); have n3_ := aA.mk ((by rw [hg]; exact (aT (by repeat (first | (with_reducible first | exact HB.out | apply aH | apply aC | apply aG) | exact HB.out))) : w.heap.size ≤ gb430)); clear HB; have HB := n0_; have BK430 := n1_; have GW430 := n2_; have GE430 := n3_; clear n0_ n1_ n2_ n3_; clear hb hbox hg; have hcz10_0 : w9.cell? ⟨gb430, 0, none⟩ = some (.slice A0_0 l0_0.length c0_0) := (aE BK430.out 0).trans rfl; have hcz10_1 : w9.cell? ⟨gb430, 1, none⟩ = some (.slice A0_1 l0_1.length c0_1) := (aE BK430.out 1).trans rfl; have hfz10_0 := aD BK430.out 0; have hfz10_1 := aD BK430.out 1) | ((with_reducible refine bB (f := 38) rfl ?_); refine bP (some 8) rfl rfl Try.func38 (by kernel_rfl) rfl #[.slice A0_0 l0_0.length c0_0, .int .i64 a1] rfl (by (try simp only [List.map_toArray, List.map_cons, List.map_nil]); first | done | rfl | (simp only [List.length_drop, List.length_take]; rfl)) ?_; (with_reducible refine (laws_heldIntS.calls k _ _ l0_0 a1 t431 _ ?side1 ?side2 A3.out).mono ?_); (case side1 => repeat (first | exact (Kd.bJ HR0_0.out HB.out) | (with_reducible refine Kd.bM ?_ _) | (with_reducible refine Kd.bN ?_ _) | (with_reducible refine Kd.bR ?_))); (case side2 => exact HC0_0.out); rintro e w' ⟨rfl, ⟨nd, rfl⟩⟩; refine ⟨_, rfl, ?_⟩) | ((with_reducible refine bB (f := 39) rfl ?_); refine bP (some 14) rfl rfl Try.func39 (by kernel_rfl) rfl #[.slice A0_1 l0_1.length c0_1, .int .i64 t431] rfl (by (try simp only [List.map_toArray, List.map_cons, List.map_nil]); first | done | rfl | (simp only [List.length_drop, List.length_take]; rfl)) ?_; (with_reducible refine (laws_heldNodeS.calls k _ _ l0_1 t431 t432 _ ?side1 ?side2 A7.out).mono ?_); (case side1 => repeat (first | exact (Kd.bJ HR0_1.out (by repeat (first | (with_reducible first | exact HB.out | apply aH | apply aC | apply aG | refine aJ ?_ GE430.out) | exact HB.out))) | (with_reducible refine Kd.bM ?_ _) | (with_reducible refine Kd.bN ?_ _) | (with_reducible refine Kd.bR ?_))); (case side2 => exact HC0_1.out); rintro e w' ⟨rfl, ⟨nd, rfl⟩⟩; refine ⟨_, rfl, ?_⟩))
   go_ret
   exact ⟨by first | rfl | (simp [errW_none, errW_some] <;> rfl) | (simp [*, errW_none, errW_some] <;> rfl), by repeat (first | (with_reducible first | exact HB.out | apply aH | apply aC | apply aG | refine aJ ?_ GE430.out) | exact HB.out)⟩
  ·rw [if_neg c8] at H
   have c8b0 : decide (t432 < 0) = false := decide_eq_false c8
   clear c8
   obtain rfl := Option.some.inj H
   go_enter Try.func12, Try.ntmps12
   go_wp2_with (first | ((with_reducible refine aW (N := 2) rfl ?_); refine aX ?hg (N := 2) ?hd (cs := #[.slice A0_0 l0_0.length c0_0, .slice A0_1 l0_1.length c0_1]) (t := 29) ?hr ?_; (case hd => rfl); (case hg => rfl); (case hr => first | (go_simp; done) | (go_simp; rfl)); intro gb430 hg w11 hbox hb; have n0_ := aA.mk (aU (by repeat (first | (with_reducible first | exact HB.out | apply aH | apply aC | apply aG) | exact HB.out)) hb); have n1_ := aA.mk (hbox); have n2_ := aA.mk ((by rw [hg]; exact (aT (by repeat (first | (with_reducible first | exact HB.out | apply aH | apply aC | apply aG) | exact HB.out))) : w.heap.size ≤ gb430)); have n3_ := aA.mk ((by rw [hg]; exact (aT (by repeat (first | (with_reducible first | exact HB.out | apply aH | apply aC | apply aG) | exact HB.out))) : w.heap.size ≤ gb430)); clear HB; have HB := n0_; have BK430 := n1_; have GW430 := n2_; have GE430 := n3_; clear n0_ n1_ n2_ n3_; clear hb hbox hg; have hcz12_0 : w11.cell? ⟨gb430, 0, none⟩ = some (.slice A0_0 l0_0.length c0_0) := (aE BK430.out 0).trans rfl; have hcz12_1 : w11.cell? ⟨gb430, 1, none⟩ = some (.slice A0_1 l0_1.length c0_1) := (aE BK430.out 1).trans rfl; have hfz12_0 := aD BK430.out 0; have hfz12_1 := aD BK430.out 1) | ((with_reducible refine bB (f := 38) rfl ?_); refine bP (some 8) rfl rfl Try.func38 (by kernel_rfl) rfl #[.slice A0_0 l0_0.length c0_0, .int .i64 a1] rfl (by (try simp only [List.map_toArray, List.map_cons, List.map_nil]); first | done | rfl | (simp only [List.length_drop, List.length_take]; rfl)) ?_; (with_reducible refine (laws_heldIntS.calls k _ _ l0_0 a1 t431 _ ?side1 ?side2 A3.out).mono ?_); (case side1 => repeat (first | exact (Kd.bJ HR0_0.out HB.out) | (with_reducible refine Kd.bM ?_ _) | (with_reducible refine Kd.bN ?_ _) | (with_reducible refine Kd.bR ?_))); (case side2 => exact HC0_0.out); rintro e w' ⟨rfl, ⟨nd, rfl⟩⟩; refine ⟨_, rfl, ?_⟩) | ((with_reducible refine bB (f := 39) rfl ?_); refine bP (some 14) rfl rfl Try.func39 (by kernel_rfl) rfl #[.slice A0_1 l0_1.length c0_1, .int .i64 t431] rfl (by (try simp only [List.map_toArray, List.map_cons, List.map_nil]); first | done | rfl | (simp only [List.length_drop, List.length_take]; rfl)) ?_; (with_reducible refine (laws_heldNodeS.calls k _ _ l0_1 t431 t432 _ ?side1 ?side2 A7.out).mono ?_); (case side1 => repeat (first | exact (Kd.bJ HR0_1.out (by repeat (first | (with_reducible first | exact HB.out | apply aH | apply aC | apply aG | refine aJ ?_ GE430.out) | exact HB.out))) | (with_reducible refine Kd.bM ?_ _) | (with_reducible refine Kd.bN ?_ _) | (with_reducible refine Kd.bR ?_))); (case side2 => exact HC0_1.out); rintro e w' ⟨rfl, ⟨nd, rfl⟩⟩; refine ⟨_, rfl, ?_⟩))
   go_ret
   exact ⟨by first | rfl | (simp [errW_none, errW_some] <;> rfl) | (simp [*, errW_none, errW_some] <;> rfl), by repeat (first | (with_reducible first | exact HB.out | apply aH | apply aC | apply aG | refine aJ ?_ GE430.out) | exact HB.out)⟩
-- NOT PRINTED: function 3 (laws_FnExactTreePack)
end Go.Proofs.Ytamjbjkbineafaa.PFnExactTreePack

namespace Go.Proofs.Ytamjbjkbineafaa.Core
open Go.RowKit Go.Proofs.YtamjbjkbineafaaW.PrintWords
theorem w64 {x : Int} (h0 : -9223372036854775808 ≤ x) (h1 : x ≤ 9223372036854775807) : wrap64 x = x := by unfold wrap64; omega
theorem w64s (n : Nat) (h : n ≤ 4611686018427387904) : wrap64 ((n : Int) + 1) = ((n + 1 : Nat) : Int) := by unfold wrap64; omega
theorem evOf {α : Type} {g : Nat → Option α} {r : α} (h : ∀ k, g k = some r) : Ev g r := ⟨0, fun k _ => h k⟩
theorem evGet {α : Type} {g : Nat → Option α} {r : α} (h : Ev g r) : ∃ k, g k = some r := by
 obtain ⟨K, h⟩ := h
 exact ⟨K, h K (Nat.le_refl _)⟩
theorem evSucc {α : Type} {g : Nat → Option α} {r : α} (h : ∃ K d, ∀ k, K ≤ k → g (k + d) = some r) : Ev g r := by
 obtain ⟨K, d, h⟩ := h
 refine ⟨K + d, fun k hk => ?_⟩
 obtain ⟨m, rfl⟩ : ∃ m, k = m + d := ⟨k - d, by omega⟩
 exact h m (by omega)
theorem evRange {σ ρ : Type} (n : Nat) (l : Nat → σ → Int → Option ρ) (Inv : Nat → σ → Prop) (M : Nat → σ → ρ)
  (step : ∀ i s, i < n → Inv i s → (∃ s', Inv (i + 1) s' ∧ M (i + 1) s' = M i s ∧ ∃ K d, ∀ k, K ≤ k → l (k + d) s (i : Int) = l k s' ((i + 1 : Nat) : Int)) ∨ (∃ K d, ∀ k, K ≤ k → l (k + d) s (i : Int) = some (M i s)))
  (done : ∀ s, Inv n s → ∃ K d, ∀ k, K ≤ k → l (k + d) s (n : Int) = some (M n s)) :
  ∀ i s, i ≤ n → Inv i s → Ev (fun k => l k s (i : Int)) (M i s) := by
 have key : ∀ d i s, n - i = d → i ≤ n → Inv i s → Ev (fun k => l k s (i : Int)) (M i s) := by
  intro d
  induction d with
  | zero =>
   intro i s hd hi hinv
   obtain rfl : i = n := by omega
   exact evSucc (done s hinv)
  | succ d ih =>
   intro i s hd hi hinv
   rcases step i s (by omega) hinv with ⟨s', hinv', hM, K, e, h⟩ | h
   ·obtain ⟨K', h'⟩ := ih (i + 1) s' (by omega) (by omega) hinv'
    refine evSucc ⟨K + K', e, fun k hk' => ?_⟩
    show l (k + e) s i = _
    rw [h k (by omega), ← hM]
    exact h' k (by omega)
   ·exact evSucc h
 exact fun i s hi => key _ i s rfl hi
theorem evRange0 {σ ρ : Type} (n : Nat) (l : Nat → σ → Int → Option ρ) (Inv : Nat → σ → Prop) (M : Nat → σ → ρ) (s : σ) (h0 : Inv 0 s)
  (step : ∀ i s, i < n → Inv i s → (∃ s', Inv (i + 1) s' ∧ M (i + 1) s' = M i s ∧ ∃ K d, ∀ k, K ≤ k → l (k + d) s (i : Int) = l k s' ((i + 1 : Nat) : Int)) ∨ (∃ K d, ∀ k, K ≤ k → l (k + d) s (i : Int) = some (M i s)))
  (done : ∀ s, Inv n s → ∃ K d, ∀ k, K ≤ k → l (k + d) s (n : Int) = some (M n s)) :
  Ev (fun k => l k s 0) (M 0 s) := evRange n l Inv M step done 0 s (Nat.zero_le _) h0
def allFrom (p : Nat → Bool) (n i : Nat) : Bool := (List.range' i (n - i)).all p
def fill {β : Type} (c : Nat → β) (l : List β) (i : Nat) : List β := (List.range i).map c ++ l.drop i
theorem fill_zero {β : Type} (c : Nat → β) (l : List β) : fill c l 0 = l := by simp [fill]
theorem fill_length {β : Type} (c : Nat → β) (l : List β) (i : Nat) (h : i ≤ l.length) : (fill c l i).length = l.length := by simp [fill]; omega
theorem fill_all {β : Type} (c : Nat → β) (l : List β) : fill c l l.length = (List.range l.length).map c := by simp [fill]
theorem fill_getElem? {β : Type} (c : Nat → β) (l : List β) (i j : Nat) : (fill c l i)[j]? = if j < i then some (c j) else l[j]? := by
 unfold fill
 by_cases h : j < i
 ·rw [if_pos h, List.getElem?_append_left (by simpa using h)]; simp [h]
 ·rw [if_neg h, List.getElem?_append_right (by simp; omega), List.getElem?_drop]; simp; congr 1; omega
theorem fill_set {β : Type} (c : Nat → β) (l : List β) (i : Nat) (h : i < l.length) {v : β} (hv : v = c i) : (fill c l i).set i v = fill c l (i + 1) := by
 subst hv
 apply List.ext_getElem?
 intro j
 rw [List.getElem?_set, fill_getElem?, fill_getElem?, fill_length c l i (by omega)]
 by_cases e : i = j
 ·subst e; simp [h]
 ·rw [if_neg e]
  by_cases h1 : j < i
  ·rw [if_pos h1, if_pos (by omega)]
  ·rw [if_neg h1, if_neg (by omega)]
theorem range_getD {β : Type} (c : Nat → β) (n i : Nat) (z : β) (h : i < n) : ((List.range n).map c).getD i z = c i := by
 rw [List.getD_eq_getElem?_getD]; simp [h]
theorem range_map {α β : Type} (f : α → β) (l : List α) (z : α) : (List.range l.length).map (fun i => f (l.getD i z)) = l.map f := by
 apply List.ext_getElem?
 intro j
 by_cases h : j < l.length
 ·simp [h]
 ·simp [h]
theorem range_id {α : Type} (l : List α) (z : α) : (List.range l.length).map (fun i => l.getD i z) = l := by
 rw [range_map (fun x => x)]; simp
theorem drop_getD {α : Type} (l : List α) (i : Nat) (z : α) (h : i < l.length) : l.drop i = l.getD i z :: l.drop (i + 1) := by
 rw [List.drop_eq_getElem_cons h, List.getD_eq_getElem?_getD, List.getElem?_eq_getElem h]; rfl
theorem take_getD {α : Type} (l : List α) (i : Nat) (z : α) (h : i < l.length) : l.take (i + 1) = l.take i ++ [l.getD i z] := by
 rw [List.take_succ_eq_append_getElem h, List.getD_eq_getElem?_getD, List.getElem?_eq_getElem h]; rfl
theorem getD_mem {α : Type} (l : List α) (i : Nat) (z : α) (h : i < l.length) : l.getD i z ∈ l := by
 rw [List.getD_eq_getElem?_getD, List.getElem?_eq_getElem h]; exact List.getElem_mem h
theorem rd_nat (l : List Int) (i : Nat) : rd l (i : Int) = l.getD i 0 := by simp [rd]
end Go.Proofs.Ytamjbjkbineafaa.Core

namespace Go.Proofs.Ytamjbjkbineafaa.Core
open Go.RowKit Go.Proofs.YtamjbjkbineafaaW.PrintWords
section
variable {α : Type} (mk : α → Int → α) (cnt : α → Int)
def cntL : List α → Int
 | [] => 0
 | x :: xs => cnt x + cntL xs
def mkL : List α → Int → List α
 | [], _ => []
 | x :: xs, a => mk x a :: mkL xs (a + cnt x)
theorem mkL_length : ∀ (l : List α) (a : Int), (mkL mk cnt l a).length = l.length
 | [], _ => rfl
 | x :: xs, a => by simp only [mkL, List.length_cons, mkL_length xs]
theorem cntL_take (z : α) : ∀ (l : List α) (i : Nat), i < l.length → cntL cnt (l.take (i + 1)) = cntL cnt (l.take i) + cnt (l.getD i z)
 | x :: xs, 0, _ => by simp [cntL]
 | x :: xs, i + 1, h => by
  have := cntL_take z xs i (by simpa using h)
  simp only [List.take_succ_cons, cntL, List.getD_cons_succ, this]
  omega
theorem cntL_nn (h : ∀ x, 0 ≤ cnt x) : ∀ l : List α, 0 ≤ cntL cnt l
 | [] => by simp [cntL]
 | x :: xs => by have := cntL_nn h xs; have := h x; simp only [cntL]; omega
theorem cntL_take_le (h : ∀ x, 0 ≤ cnt x) : ∀ (l : List α) (i : Nat), cntL cnt (l.take i) ≤ cntL cnt l
 | [], i => by simp [cntL]
 | x :: xs, 0 => by have := cntL_nn cnt h xs; have := h x; simp only [List.take_zero, cntL]; omega
 | x :: xs, i + 1 => by have := cntL_take_le h xs i; simp only [List.take_succ_cons, cntL]; omega
theorem mkL_getD (z : α) : ∀ (l : List α) (a : Int) (i : Nat), i < l.length → (mkL mk cnt l a).getD i z = mk (l.getD i z) (a + cntL cnt (l.take i))
 | x :: xs, a, 0, _ => by simp [mkL, cntL]
 | x :: xs, a, i + 1, h => by
  have := mkL_getD z xs (a + cnt x) i (by simpa using h)
  simp only [mkL, List.getD_cons_succ, List.take_succ_cons, cntL]
  rw [this]
  congr 1
  omega
/-- The first i are marked. -/
def midL (l : List α) (a : Int) (i : Nat) : List α := (mkL mk cnt l a).take i ++ l.drop i
theorem midL_zero (l : List α) (a : Int) : midL mk cnt l a 0 = l := by simp [midL]
theorem midL_all (l : List α) (a : Int) : midL mk cnt l a l.length = mkL mk cnt l a := by
 simp only [midL, List.drop_length, List.append_nil]
 rw [List.take_of_length_le (by rw [mkL_length]; omega)]
theorem midL_length (l : List α) (a : Int) (i : Nat) (h : i ≤ l.length) : (midL mk cnt l a i).length = l.length := by
 simp only [midL, List.length_append, List.length_take, List.length_drop, mkL_length]
 omega
theorem midL_getElem? (l : List α) (a : Int) (i j : Nat) (h : i ≤ l.length) : (midL mk cnt l a i)[j]? = if j < i then (mkL mk cnt l a)[j]? else l[j]? := by
 have hl : ((mkL mk cnt l a).take i).length = i := by rw [List.length_take, mkL_length]; omega
 unfold midL
 by_cases hj : j < i
 ·rw [if_pos hj, List.getElem?_append_left (by omega), List.getElem?_take, if_pos hj]
 ·rw [if_neg hj, List.getElem?_append_right (by omega), List.getElem?_drop, hl]
  congr 1
  omega
theorem midL_getD (z : α) (l : List α) (a : Int) (i : Nat) (h : i < l.length) : (midL mk cnt l a i).getD i z = l.getD i z := by
 rw [List.getD_eq_getElem?_getD, List.getD_eq_getElem?_getD, midL_getElem? mk cnt l a i i (by omega), if_neg (by omega)]
theorem midL_set (z : α) (l : List α) (a : Int) (i : Nat) (h : i < l.length) : (midL mk cnt l a i).set i (mk (l.getD i z) (a + cntL cnt (l.take i))) = midL mk cnt l a (i + 1) := by
 apply List.ext_getElem?
 intro j
 rw [List.getElem?_set, midL_length mk cnt l a i (by omega), midL_getElem? mk cnt l a i j (by omega), midL_getElem? mk cnt l a (i + 1) j (by omega)]
 by_cases hj : i = j
 ·subst hj
  rw [if_pos rfl, if_pos h, if_pos (by omega), ← mkL_getD mk cnt z l a i h, List.getD_eq_getElem?_getD, List.getElem?_eq_getElem (by rw [mkL_length]; exact h)]
  rfl
 ·rw [if_neg hj]
  by_cases h1 : j < i
  ·rw [if_pos h1, if_pos (by omega)]
  ·rw [if_neg h1, if_neg (by omega)]
end
/-- The blocks from lo on, below hi. -/
def In (lo hi k : Nat) : Prop := lo ≤ k ∧ k < hi
theorem In.off {a b c d : Nat} (h : b ≤ c) : ∀ k, In a b k → ¬ In c d k := fun _ h1 h2 => by unfold In at *; omega
namespace Mem
open Kd
section
variable {α : Type} {d : Kd α} {e n m c base lo hi top : Nat} {w w1 W : World} {A : Option Addr} {v : Value} {xs : List α} {ok P : Nat → Prop}
theorem times (hs : top ≤ W.heap.size) (hb : Below W.heap.size W w1) : ∃ lo hi, lo = W.heap.size ∧ hi = w1.heap.size ∧ top ≤ lo ∧ lo ≤ hi := ⟨_, _, rfl, rfl, hs, hb.size⟩
theorem new_R (h : d.R e w1 lo ok v xs) (eh : hi = w1.heap.size) : ∃ A c, v = .slice A xs.length c ∧ xs.length ≤ c ∧ F d w1 (In lo hi) A xs.length xs ∧ d.R e w1 lo (In lo hi) (.slice A xs.length c) xs := by
 subst eh
 obtain ⟨A, c, rfl, hl, _⟩ := R_reads h
 have h2 : d.R e w1 lo (In lo w1.heap.size) (.slice A xs.length c) xs := bK (R_bound h) (fun k hk => ⟨hk.2.1, hk.2.2.1⟩)
 exact ⟨A, c, rfl, hl, R_F h2, h2⟩
theorem new_S (h : Kd.S d e w1 lo ok v xs) (eh : hi = w1.heap.size) : ∃ A c, v = .slice A xs.length c ∧ xs.length ≤ c ∧ F d w1 (In lo hi) A xs.length xs ∧ Kd.S d e w1 lo (In lo hi) (.slice A xs.length c) xs := by
 subst eh
 obtain ⟨A, c, rfl, hl, _⟩ := S_reads h
 have h2 : Kd.S d e w1 lo (In lo w1.heap.size) (.slice A xs.length c) xs := S_mono (S_bound h) (fun k hk => ⟨hk.2.1, hk.2.2.1⟩)
 exact ⟨A, c, rfl, hl, S_F h2, h2⟩
theorem new_N (h : Kd.N d e w1 lo (fun k_ => lo ≤ k_) v xs) (eh : hi = w1.heap.size) : ∃ A c, v = .slice A xs.length c ∧ xs.length ≤ c ∧ F d w1 (In lo hi) A xs.length xs := by
 subst eh
 obtain ⟨A, c, rfl, hl, _⟩ := N_reads h
 exact ⟨A, c, rfl, hl, F_mono (F_bound (N_F h)) (fun k hk => ⟨hk.1, hk.2⟩)⟩
end
theorem back_V {α : Type} {d : Kd α} {e m c base lo : Nat} {w1 : World} {A : Option Addr} {xs : List α} {ok : Nat → Prop} {h2 : Nat} (h : Kd.V d e w1 base ok (.slice A m c) xs) (hl : ∀ k, ok k → lo ≤ k) (eh : h2 = w1.heap.size) : m = xs.length ∧ xs.length ≤ c ∧ Kd.F d w1 (In lo h2) A xs.length xs := by
 subst eh
 obtain ⟨A', c', e, hc, hf⟩ := h
 injection e with e1 e2 e3
 subst e1
 subst e2
 subst e3
 exact ⟨rfl, hc, Kd.F_mono (Kd.F_bound hf) (fun k hk => ⟨hl k hk.1, hk.2⟩)⟩
theorem lent {α : Type} {d : Kd α} {e e2 g n cap base : Nat} {P : Nat → Prop} {W : World} {xs : List (List α)} (h : Kd.S (Kd.slice e d) e2 W base P (.slice (some ⟨g, 0, none⟩) n cap) xs) (i : Int) (h0 : 0 ≤ i) (h1 : i < n) (hnew : ∀ k, W.heap.size ≤ k → P k) :
  ∃ (oki : Nat → Prop) (v : Value), (∀ k, oki k → P k) ∧ d.R e W base oki v (xs.getD i.toNat []) ∧ W.cell? ⟨g, i.toNat, none⟩ = some v ∧
   ∀ (w1 : World) (x' : List α), Kept W w1 oki → d.R e w1 base (fun k => oki k ∨ W.heap.size ≤ k) v x' → Kd.S (Kd.slice e d) e2 w1 base P (.slice (some ⟨g, 0, none⟩) n cap) (xs.set i.toNat x') := by
 obtain ⟨oki, c, hcl, hM, hcc, hoki, hH⟩ := S_lend h [] i h0 h1
 obtain ⟨v, rfl, hR⟩ := hM
 refine ⟨oki, v, fun k hk => (hoki k hk).1, hR, ?_, fun w1 x' hk hR' => ?_⟩
 ·have := hcc 0 v rfl
  simpa [show (Kd.slice e d).sz = 1 from rfl] using this
 ·refine H_back (H_step (H_widen hH) (fun k ho hn hlt => hk.2 k hlt (fun h2 => hn (.inl h2)))) (okp := fun k => oki k ∨ W.heap.size ≤ k) ⟨v, rfl, hR'⟩ (fun k hk' => ?_)
  rcases hk' with hk' | hk'
  ·exact .inl hk'
  ·exact .inr ⟨hnew k hk', hk'⟩
end Mem
end Go.Proofs.Ytamjbjkbineafaa.Core

namespace Go.Proofs.Ytamjbjkbineafaa.Pure
open Go.RowKit Go.Proofs.Ytamjbjkbineafaa.PFnExactTreePack Go.Proofs.Ytamjbjkbineafaa.Core Go.Proofs.YtamjbjkbineafaaW.PrintWords Go.Proofs.YtamjbjkbineafaaW.PrintLast Go.Proofs.YtamjbjkbineafaaW.PrintMore
set_option linter.unusedSimpArgs false
set_option linter.unusedVariables false
def okIntS (l : List Int) : Prop := l.length ≤ 4194304
def cntIntS (l : List Int) : Int := l.length
theorem cntIntS_nn {l : List Int} (h : okIntS l) : 0 ≤ cntIntS l ∧ cntIntS l ≤ 1073741824 := by unfold okIntS at h; unfold cntIntS; omega
def inIntS (l : List Int) : Prop := l.length ≤ 1048576
theorem ok_of_inIntS {l : List Int} (h : inIntS l) : okIntS l := by unfold inIntS at h; unfold okIntS; omega
def sumIntS (l : List Int) : Int := l.length
theorem sumIntS_nn (l : List Int) : 0 ≤ sumIntS l := by unfold sumIntS; omega
theorem in_of_sumIntS {l : List Int} (h : sumIntS l ≤ 1048576) : inIntS l := by unfold sumIntS at h; unfold inIntS; omega
theorem szIntS_f (l : List Int) (a : Int) (hl : l.length ≤ 9223372036854775807) (h0 : 0 ≤ a) (h1 : a ≤ 1048576) : laws_szIntS.f l a = some (if a < sumIntS l then -1 else a - sumIntS l) := by
 unfold laws_szIntS.f sumIntS
 rw [w64 (by omega) (by omega)]
 by_cases h : a < (l.length : Int)
 ·rw [if_pos (by omega), if_pos h]
 ·rw [if_neg (by omega), if_neg h]
def toK (x : S48) : S38 := ⟨x.f0, x.f1, x.f2, x.f3, x.f4⟩
def okKeyS (l : List S38) : Prop := l.length ≤ 4194304
def cntKeyS (l : List S38) : Int := 5 * l.length
def inKeyS (l : List S48) : Prop := l.length ≤ 1048576
def sumKeyS (l : List S48) : Int := l.length
theorem sumKeyS_nn (l : List S48) : 0 ≤ sumKeyS l := by unfold sumKeyS; omega
theorem in_of_sumKeyS {l : List S48} (h : sumKeyS l ≤ 1048576) : inKeyS l := by unfold sumKeyS at h; unfold inKeyS; omega
def goodK (x : S48) : Prop := (Lit.int .i64 x.f0).wf = true ∧ (Lit.int .i64 x.f1).wf = true ∧ (Lit.int .i64 x.f2).wf = true ∧ (Lit.int .i64 x.f3).wf = true ∧ (Lit.int .i64 x.f4).wf = true
theorem szKeyS_f (l : List S48) (a : Int) (hl : l.length ≤ 9223372036854775807) (h0 : 0 ≤ a) (h1 : a ≤ 1048576) : laws_szKeyS.f l a = some (if a < sumKeyS l then -1 else a - sumKeyS l) := by
 unfold laws_szKeyS.f sumKeyS
 rw [w64 (by omega) (by omega)]
 by_cases h : a < (l.length : Int)
 ·rw [if_pos (by omega), if_pos h]
 ·rw [if_neg (by omega), if_neg h]
theorem szKeyS_big (l : List S48) (a : Int) (hl : l.length ≤ 9223372036854775807) (h0 : 0 ≤ a) (h1 : a ≤ 1048576) (h : a < sumKeyS l) : Ev (fun _ => laws_szKeyS.f l a) (-1) := evOf fun _ => by rw [szKeyS_f l a hl h0 h1, if_pos h]
theorem szKeyS_fit (l : List S48) (a : Int) (hl : l.length ≤ 9223372036854775807) (h0 : 0 ≤ a) (h1 : a ≤ 1048576) (h : ¬ a < sumKeyS l) : Ev (fun _ => laws_szKeyS.f l a) (a - sumKeyS l) := evOf fun _ => by rw [szKeyS_f l a hl h0 h1, if_neg h]
def convKeySS (l : List (List S48)) : List (List S38) := l.map fun x => x.map toK
def sumKeySS : List (List S48) → Int
 | [] => 0
 | x :: xs => 1 + sumKeyS x + sumKeySS xs
theorem sumKeySS_nn : ∀ l : List (List S48), (l.length : Int) ≤ sumKeySS l
 | [] => by simp [sumKeySS]
 | x :: xs => by
  have := sumKeySS_nn xs
  have := sumKeyS_nn x
  simp only [sumKeySS, List.length_cons]
  omega
theorem sumKeySS_at : ∀ (l : List (List S48)) (i : Nat), i < l.length → 1 + sumKeyS (l.getD i []) + sumKeySS (l.drop (i + 1)) = sumKeySS (l.drop i) := by
 intro l i hi
 rw [drop_getD l i [] hi]
 rfl
theorem sumKeySS_drop : ∀ (l : List (List S48)) (i : Nat), sumKeySS (l.drop i) ≤ sumKeySS l
 | [], i => by simp
 | x :: xs, 0 => by simp
 | x :: xs, i + 1 => by
  have := sumKeySS_drop xs i
  have := sumKeyS_nn x
  simp only [List.drop_succ_cons, sumKeySS]
  omega
def inKeySS (l : List (List S48)) : Prop := sumKeySS l ≤ 1048576
theorem in_of_sumKeySS {l : List (List S48)} (h : sumKeySS l ≤ 1048576) : inKeySS l := h
theorem inKeySS_len {l : List (List S48)} (h : inKeySS l) : l.length ≤ 1048576 := by have := sumKeySS_nn l; unfold inKeySS at h; omega
theorem inKeySS_at {l : List (List S48)} (h : inKeySS l) (i : Nat) (hi : i < l.length) : inKeyS (l.getD i []) := by
 have h1 := sumKeySS_at l i hi
 have h2 := sumKeySS_drop l i
 have h3 := sumKeySS_nn (l.drop (i + 1))
 unfold inKeySS at h
 exact in_of_sumKeyS (by omega)
/-- What the impl's side holds, all in all. -/
def bulkKeySS : List (List S38) → Nat
 | [] => 0
 | x :: xs => 1 + x.length + bulkKeySS xs
def okKeySS (l : List (List S38)) : Prop := bulkKeySS l ≤ 4194304
theorem bulkKeySS_len : ∀ l : List (List S38), l.length ≤ bulkKeySS l
 | [] => by simp [bulkKeySS]
 | x :: xs => by have := bulkKeySS_len xs; simp only [bulkKeySS, List.length_cons]; omega
theorem bulkKeySS_at : ∀ (l : List (List S38)) (i : Nat), i < l.length → (l.getD i []).length ≤ bulkKeySS l
 | x :: xs, 0, _ => by simp only [bulkKeySS, List.getD_cons_zero]; omega
 | x :: xs, i + 1, h => by
  have := bulkKeySS_at xs i (by simpa using h)
  simp only [bulkKeySS, List.getD_cons_succ]; omega
theorem okKeySS_at {l : List (List S38)} (h : okKeySS l) (i : Nat) (hi : i < l.length) : okKeyS (l.getD i []) := by
 have h1 := bulkKeySS_at l i hi
 unfold okKeySS at h
 show (l.getD i []).length ≤ 4194304
 omega
theorem okKeySS_len {l : List (List S38)} (h : okKeySS l) : l.length ≤ 4194304 := by have := bulkKeySS_len l; unfold okKeySS at h; omega
theorem bulk_convKeySS : ∀ l : List (List S48), (bulkKeySS (convKeySS l) : Int) = sumKeySS l
 | [] => rfl
 | x :: xs => by
  have h1 := bulk_convKeySS xs
  have h2 : (((x.map toK).length : Nat) : Int) = sumKeyS x := by rw [List.length_map]; rfl
  (try simp only at h2)
  simp only [convKeySS] at h1
  simp only [convKeySS, List.map_cons, bulkKeySS, sumKeySS]
  omega
def goodKeySS (l : List (List S48)) : Prop := l.length ≤ 9223372036854775807 ∧ ∀ x ∈ l, x.length ≤ 9223372036854775807
theorem szKeySS_l0 (l : List (List S48)) (hg : goodKeySS l) : ∀ (d i : Nat) (s : Int), l.length - i = d → i ≤ l.length → 0 ≤ s → s ≤ 1048576 → l.length ≤ 1048576 → Ev (fun k => laws_szKeySS.l0 k l s (i : Int)) (if s < sumKeySS (l.drop i) - ((l.length : Int) - i) then -1 else s - (sumKeySS (l.drop i) - ((l.length : Int) - i))) := by
 intro d
 induction d with
 | zero =>
  intro i s hd hi h0 h1 hl
  obtain rfl : i = l.length := by omega
  refine evSucc ⟨0, 1, fun k _ => ?_⟩
  simp only [laws_szKeySS.l0]
  rw [if_neg (by omega), List.drop_length]
  rw [show sumKeySS [] = 0 from rfl, if_neg (by omega)]
  congr 1; omega
 | succ d ih =>
  intro i s hd hi h0 h1 hl
  have hlt : i < l.length := by omega
  have hs := sumKeySS_at l i hlt
  have hn := sumKeySS_nn (l.drop (i + 1))
  rw [List.length_drop] at hn
  have hr : rd_L2 l (i : Int) = l.getD i [] := by simp [rd_L2]
  have hgx := hg.2 _ (getD_mem l i [] hlt)
  generalize l.getD i [] = y at *
  have hy := sumKeyS_nn y
  by_cases c : s < sumKeyS y
  ·obtain ⟨K, e⟩ := szKeyS_big y s hgx h0 h1 c
   refine evSucc ⟨K, 1, fun k hk => ?_⟩
   have e1 := e k hk
   simp only at e1
   simp only [laws_szKeySS.l0, hr, e1, Option.bind_some]
   rw [if_pos (by omega), if_pos (by omega), if_pos (by decide), if_pos (by omega)]
  ·obtain ⟨K, e⟩ := szKeyS_fit y s hgx h0 h1 c
   obtain ⟨K2, e2⟩ := ih (i + 1) (s - sumKeyS y) (by omega) (by omega) (by omega) (by omega) hl
   refine evSucc ⟨K + K2, 1, fun k hk => ?_⟩
   have e1 := e k (by omega)
   have e3 := e2 k (by omega)
   simp only at e1 e3
   simp only [laws_szKeySS.l0, hr, e1, Option.bind_some]
   rw [if_pos (by omega), if_pos (by omega), if_neg (by omega), w64s i (by omega), e3]
   have hc : ((i + 1 : Nat) : Int) = (i : Int) + 1 := by omega
   rw [hc]
   by_cases c2 : s - sumKeyS y < sumKeySS (l.drop (i + 1)) - ((l.length : Int) - ((i : Int) + 1))
   ·rw [if_pos c2, if_pos (by omega)]
   ·rw [if_neg c2, if_neg (by omega)]; congr 1; omega
theorem szKeySS_big (l : List (List S48)) (a : Int) (hg : goodKeySS l) (h0 : 0 ≤ a) (h1 : a ≤ 1048576) (h : a < sumKeySS l) : Ev (fun k => laws_szKeySS.f k l a) (-1) := by
 have hn := hg.1
 by_cases c : a < l.length
 ·refine evOf fun k => ?_
  simp only [laws_szKeySS.f]
  rw [w64 (by omega) (by omega), if_pos (by omega)]
 ·obtain ⟨K, e⟩ := szKeySS_l0 l hg _ 0 (a - l.length) rfl (Nat.zero_le _) (by omega) (by omega) (by omega)
  refine ⟨K, fun k hk => ?_⟩
  have e1 := e k hk
  simp only [laws_szKeySS.f]
  rw [w64 (by omega) (by omega), if_neg (by omega)]
  simp only [List.drop_zero, Int.natCast_zero] at e1
  rw [if_pos (by omega)] at e1
  exact e1
theorem szKeySS_fit (l : List (List S48)) (a : Int) (hg : goodKeySS l) (h0 : 0 ≤ a) (h1 : a ≤ 1048576) (h : ¬ a < sumKeySS l) : Ev (fun k => laws_szKeySS.f k l a) (a - sumKeySS l) := by
 have hn := sumKeySS_nn l
 obtain ⟨K, e⟩ := szKeySS_l0 l hg _ 0 (a - l.length) rfl (Nat.zero_le _) (by omega) (by omega) (by omega)
 refine ⟨K, fun k hk => ?_⟩
 have e1 := e k hk
 simp only [laws_szKeySS.f]
 rw [w64 (by omega) (by omega), if_neg (by omega)]
 simp only [List.drop_zero, Int.natCast_zero] at e1
 rw [if_neg (by omega)] at e1
 rw [show a - sumKeySS l = a - ↑l.length - (sumKeySS l - (↑l.length - 0)) by omega]
 exact e1
theorem szNode_big (l : List (List S48)) (a : Int) (hg : goodKeySS l) (h0 : 0 ≤ a) (h1 : a ≤ 1048576) (h : a < sumKeySS l) : Ev (fun k => laws_szNode.f k l a) (-1) := by
 obtain ⟨K, e⟩ := szKeySS_big l a hg h0 h1 h
 refine ⟨K, fun k hk => ?_⟩
 have e1 := e k hk
 simp only at e1
 simp only [laws_szNode.f, e1, Option.bind_some]
 rfl
theorem szNode_fit (l : List (List S48)) (a : Int) (hg : goodKeySS l) (h0 : 0 ≤ a) (h1 : a ≤ 1048576) (h : ¬ a < sumKeySS l) : Ev (fun k => laws_szNode.f k l a) (a - sumKeySS l) := by
 obtain ⟨K, e⟩ := szKeySS_fit l a hg h0 h1 h
 refine ⟨K, fun k hk => ?_⟩
 have e1 := e k hk
 simp only at e1
 simp only [laws_szNode.f, e1, Option.bind_some]
 rw [if_neg (by omega)]
def convNodeS (l : List (S87)) : List (S59) := l.map fun x => (⟨convKeySS x.f0⟩ : S59)
def sumNodeS : List (S87) → Int
 | [] => 0
 | x :: xs => 1 + sumKeySS x.f0 + sumNodeS xs
theorem sumNodeS_nn : ∀ l : List (S87), (l.length : Int) ≤ sumNodeS l
 | [] => by simp [sumNodeS]
 | x :: xs => by
  have := sumNodeS_nn xs
  have := sumKeySS_nn x.f0
  simp only [sumNodeS, List.length_cons]
  omega
theorem sumNodeS_pos (l : List (S87)) : 0 ≤ sumNodeS l := by have := sumNodeS_nn l; omega
theorem sumNodeS_at : ∀ (l : List (S87)) (i : Nat), i < l.length → 1 + sumKeySS (l.getD i z87).f0 + sumNodeS (l.drop (i + 1)) = sumNodeS (l.drop i) := by
 intro l i hi
 rw [drop_getD l i z87 hi]
 rfl
theorem sumNodeS_drop : ∀ (l : List (S87)) (i : Nat), sumNodeS (l.drop i) ≤ sumNodeS l
 | [], i => by simp
 | x :: xs, 0 => by simp
 | x :: xs, i + 1 => by
  have := sumNodeS_drop xs i
  have := sumKeySS_nn x.f0
  simp only [List.drop_succ_cons, sumNodeS]
  omega
def inNodeS (l : List (S87)) : Prop := sumNodeS l ≤ 1048576
theorem in_of_sumNodeS {l : List (S87)} (h : sumNodeS l ≤ 1048576) : inNodeS l := h
theorem inNodeS_len {l : List (S87)} (h : inNodeS l) : l.length ≤ 1048576 := by have := sumNodeS_nn l; unfold inNodeS at h; omega
theorem inNodeS_at {l : List (S87)} (h : inNodeS l) (i : Nat) (hi : i < l.length) : inKeySS (l.getD i z87).f0 := by
 have h1 := sumNodeS_at l i hi
 have h2 := sumNodeS_drop l i
 have h3 := sumNodeS_nn (l.drop (i + 1))
 unfold inNodeS at h
 exact in_of_sumKeySS (by omega)
/-- What the impl's side holds, all in all. -/
def bulkNodeS : List (S59) → Nat
 | [] => 0
 | x :: xs => 1 + bulkKeySS x.f0 + bulkNodeS xs
def okNodeS (l : List (S59)) : Prop := bulkNodeS l ≤ 4194304
theorem bulkNodeS_len : ∀ l : List (S59), l.length ≤ bulkNodeS l
 | [] => by simp [bulkNodeS]
 | x :: xs => by have := bulkNodeS_len xs; simp only [bulkNodeS, List.length_cons]; omega
theorem bulkNodeS_at : ∀ (l : List (S59)) (i : Nat), i < l.length → bulkKeySS (l.getD i z59).f0 ≤ bulkNodeS l
 | x :: xs, 0, _ => by simp only [bulkNodeS, List.getD_cons_zero]; omega
 | x :: xs, i + 1, h => by
  have := bulkNodeS_at xs i (by simpa using h)
  simp only [bulkNodeS, List.getD_cons_succ]; omega
theorem okNodeS_at {l : List (S59)} (h : okNodeS l) (i : Nat) (hi : i < l.length) : okKeySS (l.getD i z59).f0 := by
 have h1 := bulkNodeS_at l i hi
 unfold okNodeS at h
 show bulkKeySS (l.getD i z59).f0 ≤ 4194304
 omega
theorem okNodeS_len {l : List (S59)} (h : okNodeS l) : l.length ≤ 4194304 := by have := bulkNodeS_len l; unfold okNodeS at h; omega
theorem bulk_convNodeS : ∀ l : List (S87), (bulkNodeS (convNodeS l) : Int) = sumNodeS l
 | [] => rfl
 | x :: xs => by
  have h1 := bulk_convNodeS xs
  have h2 : ((bulkKeySS ((⟨convKeySS x.f0⟩ : S59)).f0 : Nat) : Int) = sumKeySS x.f0 := bulk_convKeySS x.f0
  (try simp only at h2)
  simp only [convNodeS] at h1
  simp only [convNodeS, List.map_cons, bulkNodeS, sumNodeS]
  omega
theorem ok_of_inNodeS {l : List (S87)} (h : inNodeS l) : okNodeS (convNodeS l) := by
 have := bulk_convNodeS l
 unfold inNodeS at h
 unfold okNodeS
 omega
def goodNodeS (l : List (S87)) : Prop := l.length ≤ 9223372036854775807 ∧ ∀ x ∈ l, goodKeySS x.f0
theorem szNodeS_l0 (l : List (S87)) (hg : goodNodeS l) : ∀ (d i : Nat) (s : Int), l.length - i = d → i ≤ l.length → 0 ≤ s → s ≤ 1048576 → l.length ≤ 1048576 → Ev (fun k => laws_szNodeS.l0 k l s (i : Int)) (if s < sumNodeS (l.drop i) - ((l.length : Int) - i) then -1 else s - (sumNodeS (l.drop i) - ((l.length : Int) - i))) := by
 intro d
 induction d with
 | zero =>
  intro i s hd hi h0 h1 hl
  obtain rfl : i = l.length := by omega
  refine evSucc ⟨0, 1, fun k _ => ?_⟩
  simp only [laws_szNodeS.l0]
  rw [if_neg (by omega), List.drop_length]
  rw [show sumNodeS [] = 0 from rfl, if_neg (by omega)]
  congr 1; omega
 | succ d ih =>
  intro i s hd hi h0 h1 hl
  have hlt : i < l.length := by omega
  have hs := sumNodeS_at l i hlt
  have hn := sumNodeS_nn (l.drop (i + 1))
  rw [List.length_drop] at hn
  have hr : rd_T87 l (i : Int) = l.getD i z87 := by simp [rd_T87]
  have hgx := hg.2 _ (getD_mem l i z87 hlt)
  generalize l.getD i z87 = y at *
  have hy := sumKeySS_nn y.f0
  by_cases c : s < sumKeySS y.f0
  ·obtain ⟨K, e⟩ := szNode_big y.f0 s hgx h0 h1 c
   refine evSucc ⟨K, 1, fun k hk => ?_⟩
   have e1 := e k hk
   simp only at e1
   simp only [laws_szNodeS.l0, hr, e1, Option.bind_some]
   rw [if_pos (by omega), if_pos (by omega), if_pos (by decide), if_pos (by omega)]
  ·obtain ⟨K, e⟩ := szNode_fit y.f0 s hgx h0 h1 c
   obtain ⟨K2, e2⟩ := ih (i + 1) (s - sumKeySS y.f0) (by omega) (by omega) (by omega) (by omega) hl
   refine evSucc ⟨K + K2, 1, fun k hk => ?_⟩
   have e1 := e k (by omega)
   have e3 := e2 k (by omega)
   simp only at e1 e3
   simp only [laws_szNodeS.l0, hr, e1, Option.bind_some]
   rw [if_pos (by omega), if_pos (by omega), if_neg (by omega), w64s i (by omega), e3]
   have hc : ((i + 1 : Nat) : Int) = (i : Int) + 1 := by omega
   rw [hc]
   by_cases c2 : s - sumKeySS y.f0 < sumNodeS (l.drop (i + 1)) - ((l.length : Int) - ((i : Int) + 1))
   ·rw [if_pos c2, if_pos (by omega)]
   ·rw [if_neg c2, if_neg (by omega)]; congr 1; omega
theorem szNodeS_big (l : List (S87)) (a : Int) (hg : goodNodeS l) (h0 : 0 ≤ a) (h1 : a ≤ 1048576) (h : a < sumNodeS l) : Ev (fun k => laws_szNodeS.f k l a) (-1) := by
 have hn := hg.1
 by_cases c : a < l.length
 ·refine evOf fun k => ?_
  simp only [laws_szNodeS.f]
  rw [w64 (by omega) (by omega), if_pos (by omega)]
 ·obtain ⟨K, e⟩ := szNodeS_l0 l hg _ 0 (a - l.length) rfl (Nat.zero_le _) (by omega) (by omega) (by omega)
  refine ⟨K, fun k hk => ?_⟩
  have e1 := e k hk
  simp only [laws_szNodeS.f]
  rw [w64 (by omega) (by omega), if_neg (by omega)]
  simp only [List.drop_zero, Int.natCast_zero] at e1
  rw [if_pos (by omega)] at e1
  exact e1
theorem szNodeS_fit (l : List (S87)) (a : Int) (hg : goodNodeS l) (h0 : 0 ≤ a) (h1 : a ≤ 1048576) (h : ¬ a < sumNodeS l) : Ev (fun k => laws_szNodeS.f k l a) (a - sumNodeS l) := by
 have hn := sumNodeS_nn l
 obtain ⟨K, e⟩ := szNodeS_l0 l hg _ 0 (a - l.length) rfl (Nat.zero_le _) (by omega) (by omega) (by omega)
 refine ⟨K, fun k hk => ?_⟩
 have e1 := e k hk
 simp only [laws_szNodeS.f]
 rw [w64 (by omega) (by omega), if_neg (by omega)]
 simp only [List.drop_zero, Int.natCast_zero] at e1
 rw [if_neg (by omega)] at e1
 rw [show a - sumNodeS l = a - ↑l.length - (sumNodeS l - (↑l.length - 0)) by omega]
 exact e1
def sumTree (l : List Int) (n : List S87) : Int := sumIntS l + sumNodeS n
theorem szTree_big (l : List Int) (n : List S87) (a : Int) (hl : l.length ≤ 9223372036854775807) (hg : goodNodeS n) (h0 : 0 ≤ a) (h1 : a ≤ 1048576) (h : a < sumTree l n) : Ev (fun k => laws_szTree.f k l n a) (-1) := by
 have u := sumIntS_nn l
 unfold sumTree at h
 by_cases c : a < sumIntS l
 ·refine evOf fun k => ?_
  simp only [laws_szTree.f, szIntS_f l a hl h0 h1, if_pos c, Option.bind_some]
  rfl
 ·obtain ⟨K, e⟩ := szNodeS_big n (a - sumIntS l) hg (by omega) (by omega) (by omega)
  refine ⟨K, fun k hk => ?_⟩
  have e1 := e k hk
  simp only at e1
  simp only [laws_szTree.f, szIntS_f l a hl h0 h1, if_neg c, Option.bind_some, e1]
  rw [if_neg (by omega)]
  rfl
theorem szTree_fit (l : List Int) (n : List S87) (a : Int) (hl : l.length ≤ 9223372036854775807) (hg : goodNodeS n) (h0 : 0 ≤ a) (h1 : a ≤ 1048576) (h : ¬ a < sumTree l n) : Ev (fun k => laws_szTree.f k l n a) (a - sumTree l n) := by
 have u := sumIntS_nn l
 have u2 := sumNodeS_pos n
 unfold sumTree at h
 obtain ⟨K, e⟩ := szNodeS_fit n (a - sumIntS l) hg (by omega) (by omega) (by omega)
 refine ⟨K, fun k hk => ?_⟩
 have e1 := e k hk
 simp only at e1
 simp only [laws_szTree.f, szIntS_f l a hl h0 h1, if_neg (show ¬ a < sumIntS l by omega), Option.bind_some, e1]
 rw [if_neg (by omega), if_neg (by omega)]
 unfold sumTree
 congr 1
 omega
theorem spec_l5Copy_ev (ls : List (List S38)) (ho : okKeySS ls) : Ev (fun k => spec_l5Copy.f k ls) ls := by
 have h := okKeySS_len ho
 obtain ⟨K, hk⟩ := evRange0 (σ := List (List S38)) ls.length (fun k s i => spec_l5Copy.l0 k i ls s) (fun i s => s = ls.take i) (fun _ _ => ls) [] (by simp)
  (by
   intro i s hi hs
   subst hs
   have hr : rd_L6 ls (i : Int) = ls.getD i [] := by simp [rd_L6]
   have hb := okKeySS_at ho i hi
   unfold okKeyS at hb
   have hl : (ls.take i).length = i := by simp; omega
   refine .inl ⟨ls.take (i + 1), rfl, rfl, 0, 1, fun k _ => ?_⟩
   simp only [spec_l5Copy.l0, hr, Option.bind_some, List.length_nil, List.nil_append]
   rw [if_pos (by omega), if_pos (by omega), if_pos (by omega), if_pos (by omega), w64s i (by omega), take_getD ls i [] hi])
  (by
   intro s hs
   subst hs
   refine ⟨0, 1, fun k _ => ?_⟩
   simp only [spec_l5Copy.l0]
   rw [if_neg (by omega), List.take_length])
 exact ⟨K, fun k hk' => hk k hk'⟩
theorem spec_l6Copy_ev (s : List Int) (l : List S59) (hs : s.length ≤ 4194304) (ho : okNodeS l) : Ev (fun k => spec_l6Copy.f k s l) (s, l) := by
 have h := okNodeS_len ho
 obtain ⟨K, hk⟩ := evRange0 (σ := List S59) l.length (fun k x i => spec_l6Copy.l0 k i s l s x) (fun i x => x = l.take i) (fun _ _ => (s, l)) [] (by simp)
  (by
   intro i x hi hx
   subst hx
   have hr : rd_T59 l (i : Int) = l.getD i z59 := by simp [rd_T59]
   obtain ⟨K, e⟩ := spec_l5Copy_ev (l.getD i z59).f0 (okNodeS_at ho i hi)
   have hl : (l.take i).length = i := by simp; omega
   refine .inl ⟨l.take (i + 1), rfl, rfl, K, 1, fun k hk => ?_⟩
   have a := e k hk
   simp only at a
   simp only [spec_l6Copy.l0, hr, a, Option.bind_some]
   rw [if_pos (by omega), if_pos (by omega), if_pos (by omega), w64s i (by omega), take_getD l i z59 hi])
  (by
   intro x hx
   subst hx
   refine ⟨0, 1, fun k _ => ?_⟩
   simp only [spec_l6Copy.l0]
   rw [if_neg (by omega), List.take_length])
 refine ⟨K, fun k hk' => ?_⟩
 simp only [spec_l6Copy.f, Option.bind_some, List.length_nil, List.nil_append]
 rw [if_pos (by omega)]
 exact hk k hk'
theorem spec_l1In_f (a b c : Int) : spec_l1In.f a b c = some (decide (b ≤ a ∧ a ≤ c)) := by
 unfold spec_l1In.f
 by_cases h : a ≥ b
 ·rw [if_pos h]; congr 1; rw [Bool.eq_iff_iff]; simp; omega
 ·rw [if_neg h]; congr 1; rw [Bool.eq_iff_iff]; simp; omega
def less (a b : S38) : Bool := decide (a.f0 < b.f0 ∨ a.f0 = b.f0 ∧ a.f1 < b.f1)
def same (a b : S38) : Bool := decide (a.f0 = b.f0 ∧ a.f1 = b.f1)
def putGo (k : S38) : List S38 → Bool → List S38
 | [], p => if p then [] else [k]
 | x :: xs, p => (if p || less x k then [] else [k]) ++ ((if same x k then [] else [x]) ++ putGo k xs (p || !less x k))
def setPut (l : List S38) (k : S38) : List S38 := putGo k l false
def mergeSets (a b : List S38) : List S38 := b.foldl setPut a
def dropNone (l : List S38) : List S38 := l.filter fun x => x.f2 != 0
theorem putGo_length (k : S38) : ∀ (l : List S38) (p : Bool), (putGo k l p).length ≤ l.length + 1
 | [], p => by cases p <;> simp [putGo]
 | x :: xs, p => by
  have ih := putGo_length k xs
  have ih1 : p = true → (putGo k xs true).length ≤ xs.length := fun _ => by
   clear ih
   induction xs with
   | nil => simp [putGo]
   | cons y ys ih => simp only [putGo, Bool.true_or, if_true, List.nil_append, List.length_append, List.length_cons]; split <;> simp <;> omega
  simp only [putGo, List.length_append, List.length_cons]
  cases p with
  | true => simp only [Bool.true_or, if_true, List.length_nil]; have := ih1 rfl; split <;> simp <;> omega
  | false =>
   cases hx : less x k with
   | true => simp only [Bool.false_or, if_true, Bool.not_true, List.length_nil]; have := ih false; split <;> simp <;> omega
   | false =>
    simp only [Bool.false_or, Bool.not_false, if_false, Bool.false_eq_true, List.length_cons, List.length_nil]
    have h2 : (putGo k xs true).length ≤ xs.length := by
     clear ih ih1
     induction xs with
     | nil => simp [putGo]
     | cons y ys ih => simp only [putGo, Bool.true_or, if_true, List.nil_append, List.length_append, List.length_cons]; split <;> simp <;> omega
    split <;> simp <;> omega
theorem setPut_length (l : List S38) (k : S38) : (setPut l k).length ≤ l.length + 1 := putGo_length k l false
theorem mergeSets_length (a b : List S38) : (mergeSets a b).length ≤ a.length + b.length := by
 unfold mergeSets
 induction b generalizing a with
 | nil => simp
 | cons x xs ih => simp only [List.foldl_cons, List.length_cons]; have := ih (setPut a x); have := setPut_length a x; omega
theorem spec_Drop_ev (l : List S38) (h : l.length ≤ 4194304) : Ev (fun k => spec_Drop.f k l) (dropNone l) := by
 obtain ⟨K, hk⟩ := evRange0 (σ := List S38) l.length (fun k s i => spec_Drop.l0 k l s i) (fun i s => s.length ≤ i) (fun i s => s ++ dropNone (l.drop i)) [] (by simp)
  (by
   intro i s hi hs
   have hd := drop_getD l i z38 hi
   have hr : rd_T38 l (i : Int) = l.getD i z38 := by simp [rd_T38]
   generalize l.getD i z38 = y at *
   by_cases h1 : y.f2 = 0
   ·refine .inl ⟨s, by omega, ?_, 0, 1, fun k _ => ?_⟩
    ·rw [hd, dropNone, dropNone, List.filter_cons_of_neg (by simp [h1])]
    ·simp only [spec_Drop.l0, hr]
     rw [if_pos (by omega), if_pos (by omega), if_pos h1, w64s i (by omega)]
   ·refine .inl ⟨s ++ [y], by simp; omega, ?_, 0, 1, fun k _ => ?_⟩
    ·rw [hd, dropNone, dropNone, List.filter_cons_of_pos (by simp [h1]), List.append_assoc]; rfl
    ·simp only [spec_Drop.l0, hr]
     rw [if_pos (by omega), if_pos (by omega), if_neg h1, if_pos (by omega), w64s i (by omega)])
  (by
   intro s _
   refine ⟨0, 1, fun k _ => ?_⟩
   simp only [spec_Drop.l0]
   rw [if_neg (by omega)]
   simp [dropNone])
 exact ⟨K, fun k hk' => hk k hk'⟩
theorem spec_LessKey_f (a b : S38) : spec_LessKey.f a.f0 a.f1 a.f2 a.f3 a.f4 b.f0 b.f1 b.f2 b.f3 b.f4 = some (less a b) := by
 unfold spec_LessKey.f less
 split
 ·simp [*]
 ·simp [*]
theorem spec_SameSpot_f (a b : S38) : spec_SameSpot.f a.f0 a.f1 a.f2 a.f3 a.f4 b.f0 b.f1 b.f2 b.f3 b.f4 = some (same a b) := by
 unfold spec_SameSpot.f same
 split
 ·simp only [*, true_and, Option.some.injEq]; rw [Bool.eq_iff_iff]; simp
 ·simp [*]
theorem spec_SetPut_ev (l : List S38) (x : S38) (h : l.length ≤ 4194304) : Ev (fun k => spec_SetPut.f k l x.f0 x.f1 x.f2 x.f3 x.f4) (setPut l x) := by
 obtain ⟨K, hk⟩ := evRange0 (σ := List S38 × Bool) l.length (fun k s i => spec_SetPut.l0 k l s.1 s.2 i x.f0 x.f1 x.f2 x.f3 x.f4) (fun i s => s.1.length ≤ 2 * i) (fun i s => s.1 ++ putGo x (l.drop i) s.2) ([], false) (by simp)
  (by
   intro i s hi hs
   obtain ⟨out, put⟩ := s
   simp only at hs
   have hd := drop_getD l i z38 hi
   have hr : rd_T38 l (i : Int) = l.getD i z38 := by simp [rd_T38]
   refine .inl ⟨(out ++ (if put || less (l.getD i z38) x then [] else [x]) ++ (if same (l.getD i z38) x then [] else [l.getD i z38]), put || !less (l.getD i z38) x), ?_, ?_, 0, 2, fun k _ => ?_⟩
   ·simp only [List.length_append]; split <;> split <;> simp <;> omega
   ·simp only [hd, putGo, List.append_assoc]
   ·generalize hy : l.getD i z38 = y at *
    have hw := w64s i (by omega)
    have c1 : (i : Int) < (l.length : Int) := by omega
    have c2 : 0 ≤ (i : Int) := by omega
    simp only [spec_SetPut.l0, hr, spec_LessKey_f, Option.bind_some, spec_SetPut.j1, if_pos c1, if_pos c2]
    cases put <;> cases hl : less y x <;> cases hq : same y x <;>
     simp only [Bool.not_true, Bool.not_false, if_true, if_false, Bool.false_eq_true, reduceCtorEq, spec_SameSpot_f, Option.bind_some, hq, hw, Bool.or_true, Bool.true_or, Bool.or_false, Bool.false_or, List.append_nil, List.append_assoc] <;>
     (repeat rw [if_pos (by first | omega | (simp only [List.length_append, List.length_cons, List.length_nil]; omega))]) <;> rfl)
  (by
   intro s hs
   obtain ⟨out, put⟩ := s
   simp only at hs
   refine ⟨0, 1, fun k _ => ?_⟩
   simp only [spec_SetPut.l0]
   rw [if_neg (by omega)]
   cases put
   ·rw [if_neg (by simp), if_pos (by omega)]; simp [putGo]
   ·rw [if_pos rfl]; simp [putGo])
 exact ⟨K, fun k hk' => hk k hk'⟩
theorem spec_MergeSets_ev (a b : List S38) (h : a.length + b.length ≤ 4194304) : Ev (fun k => spec_MergeSets.f k a b) (mergeSets a b) := by
 obtain ⟨K, hk⟩ := evRange0 (σ := List S38) b.length (fun k s i => spec_MergeSets.l0 k b s i) (fun i s => s.length ≤ a.length + i) (fun i s => mergeSets s (b.drop i)) a (by simp)
  (by
   intro i s hi hs
   have hd := drop_getD b i z38 hi
   have hr : rd_T38 b (i : Int) = b.getD i z38 := by simp [rd_T38]
   obtain ⟨K, e⟩ := spec_SetPut_ev s (b.getD i z38) (by omega)
   have hlen := setPut_length s (b.getD i z38)
   refine .inl ⟨setPut s (b.getD i z38), by omega, by simp only [hd, mergeSets, List.foldl_cons], K, 1, fun k hk => ?_⟩
   simp only [spec_MergeSets.l0, hr, e k hk, Option.bind_some]
   rw [if_pos (by omega), if_pos (by omega), w64s i (by omega)])
  (by
   intro s hs
   refine ⟨0, 1, fun k _ => ?_⟩
   simp only [spec_MergeSets.l0]
   rw [if_neg (by omega)]
   simp [mergeSets])
 refine ⟨K, fun k hk' => ?_⟩
 simp only [spec_MergeSets.f, Option.bind_some, List.length_nil, List.nil_append]
 rw [if_pos (by omega)]
 exact hk k hk'
def keyOk5 (a b c d e : Int) : Bool := decide (0 ≤ a ∧ a ≤ 15) && (decide (1 ≤ b ∧ b ≤ 60) && (decide (0 ≤ c ∧ c ≤ 2) && if c = 1 then decide (0 ≤ d ∧ d ≤ 23) && decide (0 ≤ e ∧ e ≤ 999) else decide (d = 0) && decide (e = 0)))
def keyOkB (x : S38) : Bool := keyOk5 x.f0 x.f1 x.f2 x.f3 x.f4
def risesAt (l : List S38) (j : Nat) : Bool := less (l.getD (j - 1) z38) (l.getD j z38)
def setOkB (l : List S38) : Bool := allFrom (fun j => keyOkB (l.getD j z38) && (j == 0 || risesAt l j)) l.length 0 && decide (l.length ≤ 60)
def countK : List (List S38) → Nat
 | [] => 0
 | l :: ls => l.length + countK ls
def nodeOkB (ls : List (List S38)) : Bool := allFrom (fun i => setOkB (ls.getD i []) && !decide ((ls.getD i []).length = 0)) ls.length 0 && (decide (ls.length ≤ 3) && decide (countK ls ≤ 8))
theorem countK_bulk : ∀ ls : List (List S38), countK ls ≤ bulkKeySS ls
 | [] => Nat.le_refl _
 | l :: ls => by have := countK_bulk ls; simp only [countK, bulkKeySS]; omega
theorem countK_drop (ls : List (List S38)) (i : Nat) (h : i < ls.length) : countK (ls.drop i) = (ls.getD i []).length + countK (ls.drop (i + 1)) := by
 rw [drop_getD ls i [] h]; rfl
def spotOf (a b : Int) : Int := wrap64 (wrap64 (64 * a) + b)
/-- The last low at most x, or -1: counted down from n. -/
def whereGo (l : List Int) (x : Int) : Nat → Int
 | 0 => -1
 | n + 1 => if l.getD n 0 ≤ x then (n : Int) else whereGo l x n
def mergeAll (s : List S38) (ls : List (List S38)) : List S38 := ls.foldl mergeSets s
def nodeKeys (ls : List (List S38)) : List S38 := dropNone (mergeAll [] ls)
theorem mergeAll_length : ∀ (ls : List (List S38)) (s : List S38), (mergeAll s ls).length ≤ s.length + countK ls
 | [], s => by simp [mergeAll]
 | l :: ls, s => by
  have h1 := mergeAll_length ls (mergeSets s l)
  have h2 := mergeSets_length s l
  simp only [mergeAll, List.foldl_cons, countK] at *
  omega
theorem dropNone_length (l : List S38) : (dropNone l).length ≤ l.length := List.length_filter_le _ _
theorem nodeKeys_length (ls : List (List S38)) : (nodeKeys ls).length ≤ countK ls := by
 have h1 := mergeAll_length ls []
 have h2 := dropNone_length (mergeAll [] ls)
 simp only [List.length_nil] at h1
 unfold nodeKeys
 omega
def inBoundsB (lows : List Int) (i : Nat) (ls : List (List S38)) : Bool := ls.all fun l => l.all fun x => decide (lows.getD i 0 ≤ spotOf x.f0 x.f1) && !(decide (i + 1 < lows.length) && decide (lows.getD (i + 1) 0 ≤ spotOf x.f0 x.f1))
theorem spec_NodeKeys_ev (ls : List (List S38)) (ho : okKeySS ls) : Ev (fun k => spec_NodeKeys.f k ls) (nodeKeys ls) := by
 have h := okKeySS_len ho
 have hb := countK_bulk ls
 have hbb : bulkKeySS ls ≤ 4194304 := ho
 obtain ⟨K, hk⟩ := evRange0 (σ := List S38) ls.length (fun k s i => spec_NodeKeys.l0 k s i ls) (fun i s => s.length + countK (ls.drop i) ≤ countK ls) (fun i s => dropNone (mergeAll s (ls.drop i))) [] (by simp)
  (by
   intro i s hi hs
   have hd := drop_getD ls i [] hi
   have hr : rd_L6 ls (i : Int) = ls.getD i [] := by simp [rd_L6]
   rw [countK_drop ls i hi] at hs
   obtain ⟨K, e⟩ := spec_MergeSets_ev s (ls.getD i []) (by omega)
   have hl := mergeSets_length s (ls.getD i [])
   refine .inl ⟨mergeSets s (ls.getD i []), by omega, by rw [hd]; rfl, K, 1, fun k hk => ?_⟩
   have e1 := e k hk
   simp only at e1
   simp only [spec_NodeKeys.l0, hr, e1, Option.bind_some]
   rw [if_pos (by omega), if_pos (by omega), w64s i (by omega)])
  (by
   intro s hs
   simp only [List.drop_length, countK] at hs
   obtain ⟨K, e⟩ := spec_Drop_ev s (by omega)
   refine ⟨K, 1, fun k hk => ?_⟩
   have e1 := e k hk
   simp only at e1
   simp only [spec_NodeKeys.l0, e1, Option.bind_some]
   rw [if_neg (by omega)]
   simp [mergeAll])
 exact ⟨K, fun k hk' => hk k hk'⟩
theorem toKeyS_ev (l : List S48) (hi : inKeyS l) : Ev (fun k => laws_toKeyS.f k l) (l.map toK) := by
 have h : l.length ≤ 1048576 := hi
 have hl : ∀ i, i ≤ l.length → (fill (fun i => toK (l.getD i z48)) (List.replicate l.length z38) i).length = l.length := fun i hi => by rw [fill_length _ _ _ (by simpa using hi)]; simp
 obtain ⟨K, hk⟩ := evRange0 (σ := List S38) l.length (fun k s i => laws_toKeyS.l0 k l s i) (fun i s => s = fill (fun i => toK (l.getD i z48)) (List.replicate l.length z38) i) (fun _ _ => l.map toK) (List.replicate l.length z38) (fill_zero _ _).symm
  (by
   intro i s hi hs
   subst hs
   refine .inl ⟨_, rfl, rfl, 0, 1, fun k _ => ?_⟩
   have h1 := hl i (by omega)
   simp only [laws_toKeyS.l0]
   rw [if_pos (by omega), if_pos (by omega)]
   simp only [laws_toKey.f, Option.bind_some]
   rw [if_pos (by omega), w64s i (by omega), Int.toNat_natCast, fill_set _ _ _ (by simpa using hi)]
   simp [toK, rd_T48])
  (by
   intro s hs
   subst hs
   refine ⟨0, 1, fun k _ => ?_⟩
   simp only [laws_toKeyS.l0]
   rw [if_neg (by omega)]
   have := fill_all (fun i => toK (l.getD i z48)) (List.replicate l.length z38)
   rw [List.length_replicate] at this
   rw [this, range_map])
 refine ⟨K, fun k hk' => ?_⟩
 simp only [laws_toKeyS.f]
 rw [if_pos (by omega), if_pos (by omega)]
 have e := hk k hk'
 simpa using e
def nodeNew (l : List S38) : List (List S38) := if l.length = 0 then [] else [l]
theorem spec_NodeNew_ev (l : List S38) (h : l.length ≤ 4194304) : Ev (fun _ => spec_NodeNew.f l) (nodeNew l) := by
 refine evOf fun _ => ?_
 simp only [spec_NodeNew.f, nodeNew, Option.bind_some, List.nil_append, List.length_nil, Nat.zero_add]
 by_cases c : l.length = 0
 ·rw [if_pos (by omega), if_pos c]
 ·rw [if_neg (by omega), if_neg c, if_pos (by omega)]
theorem spec_NodePack_ev (ls : List (List S38)) (ho : okKeySS ls) : Ev (fun k => spec_NodePack.f k ls) (nodeNew (nodeKeys ls)) := by
 have h1 := nodeKeys_length ls
 have h2 := countK_bulk ls
 have h3 : bulkKeySS ls ≤ 4194304 := ho
 unfold spec_NodePack.f
 refine Ev.bind (spec_NodeKeys_ev ls ho) (Ev.bind (spec_NodeNew_ev _ (by omega)) (Ev.now _))
def at6 : Option S38 → Int × Int × Int × Int × Int × Bool
 | some x => (x.f0, x.f1, x.f2, x.f3, x.f4, true)
 | none => (0, 0, 0, 0, 0, false)
def setAt (l : List S38) (a b : Int) : Option S38 := l.find? fun x => decide (x.f0 = a) && decide (x.f1 = b)
def lastK (ls : List (List S38)) : List S38 := ls.getD (ls.length - 1) []
def hereK (ls : List (List S38)) (x : S38) : Bool := (setAt (lastK ls) x.f0 x.f1).isSome || decide ((lastK ls).length < 4)
def nodeNext (ls : List (List S38)) (x : S38) : List (List S38) := if ls.length ≠ 0 ∧ hereK ls x = true then ls.set (ls.length - 1) (setPut (lastK ls) x) else ls ++ [[x]]
def keysPut (ls : List (List S38)) (x : S38) : List S38 := dropNone (setPut (nodeKeys ls) x)
def nodePut (ls : List (List S38)) (x : S38) : List (List S38) × Bool :=
 if nodeOkB (nodeNext ls x) = true then (nodeNext ls x, true)
 else if (keysPut ls x).length ≤ 8 ∧ nodeOkB (nodeNew (keysPut ls x)) = true then (nodeNew (keysPut ls x), true)
 else (ls, false)
theorem bulk_nodeNew (l : List S38) : bulkKeySS (nodeNew l) ≤ l.length + 1 := by
 unfold nodeNew
 split
 ·simp [bulkKeySS]
 ·simp only [bulkKeySS]; omega
def treePack (s : List Int) (l : List S59) (i : Int) : List Int × List S59 := if 0 ≤ i ∧ i ≤ (l.length : Int) - 1 then (s, l.set i.toNat ⟨nodeNew (nodeKeys (l.getD i.toNat z59).f0)⟩) else (s, l)
theorem bulkNodeS_set : ∀ (l : List S59) (i : Nat) (x : S59), i < l.length → bulkNodeS (l.set i x) + bulkKeySS (l.getD i z59).f0 = bulkNodeS l + bulkKeySS x.f0
 | y :: l, 0, x, _ => by simp only [lB, bulkNodeS, List.getD_cons_zero]; omega
 | y :: l, i + 1, x, h => by
  have := bulkNodeS_set l i x (by simpa using h)
  simp only [lC, bulkNodeS, List.getD_cons_succ]; omega
theorem okNodeS_treePack {s : List Int} {l : List S59} (i : Int) (h : bulkNodeS l ≤ 4194000) : okNodeS (treePack s l i).2 := by
 unfold treePack okNodeS
 split
 ·rename_i hi
  have h1 := bulkNodeS_set l i.toNat ⟨nodeNew (nodeKeys (l.getD i.toNat z59).f0)⟩ (by omega)
  have h2 := bulk_nodeNew (nodeKeys (l.getD i.toNat z59).f0)
  have h3 := nodeKeys_length (l.getD i.toNat z59).f0
  have h4 := countK_bulk (l.getD i.toNat z59).f0
  show bulkNodeS (l.set i.toNat _) ≤ 4194304
  simp only at h1
  omega
 ·show bulkNodeS l ≤ 4194304
  omega
theorem treePack_fst (s : List Int) (l : List S59) (i : Int) : (treePack s l i).1 = s := by unfold treePack; split <;> rfl
theorem spec_TreePack_ev (s : List Int) (l : List S59) (i : Int) (hs : s.length ≤ 4194304) (ho : okNodeS l) : Ev (fun k => spec_TreePack.f k s l i) (treePack s l i) := by
 have h := okNodeS_len ho
 obtain ⟨K, e⟩ := spec_l6Copy_ev s l hs ho
 by_cases hi : 0 ≤ i ∧ i ≤ (l.length : Int) - 1
 ·have hr : rd_T59 l i = l.getD i.toNat z59 := by simp [rd_T59]
  obtain ⟨K2, e2⟩ := spec_NodePack_ev (l.getD i.toNat z59).f0 (okNodeS_at ho i.toNat (by omega))
  refine ⟨K + K2, fun k hk => ?_⟩
  have a := e k (by omega)
  have a2 := e2 k (by omega)
  simp only at a a2
  simp only [spec_TreePack.f, a, Option.bind_some, spec_l1In_f]
  rw [w64 (x := (l.length : Int) - 1) (by omega) (by omega), decide_eq_true hi, if_pos rfl, if_pos hi.1, if_pos (by omega), hr]
  simp only [a2, Option.bind_some]
  rw [if_pos (by omega)]
  unfold treePack
  rw [if_pos hi]
 ·refine ⟨K, fun k hk => ?_⟩
  have a := e k (by omega)
  simp only at a
  simp only [spec_TreePack.f, a, Option.bind_some, spec_l1In_f]
  rw [w64 (x := (l.length : Int) - 1) (by omega) (by omega), decide_eq_false hi, if_neg (by decide)]
  unfold treePack
  rw [if_neg hi]
theorem toIntS_ev (l : List Int) (hi : inIntS l) : Ev (fun k => laws_toIntS.f k l) l := by
 have h : l.length ≤ 1048576 := hi
 have hl : ∀ i, i ≤ l.length → (fill (fun i => l.getD i 0) (List.replicate l.length (0 : Int)) i).length = l.length := fun i hi => by rw [fill_length _ _ _ (by simpa using hi)]; simp
 obtain ⟨K, hk⟩ := evRange0 (σ := List Int) l.length (fun k s i => laws_toIntS.l0 k l s i) (fun i s => s = fill (fun i => l.getD i 0) (List.replicate l.length (0 : Int)) i) (fun _ _ => l) (List.replicate l.length (0 : Int)) (fill_zero _ _).symm
  (by
   intro i s hi hs
   subst hs
   refine .inl ⟨_, rfl, rfl, 0, 1, fun k _ => ?_⟩
   have h1 := hl i (by omega)
   simp only [laws_toIntS.l0]
   rw [if_pos (by omega), if_pos (by omega), if_pos (by omega), w64s i (by omega), Int.toNat_natCast, fill_set _ _ _ (by simpa using hi) (rd_nat l i)])
  (by
   intro s hs
   subst hs
   refine ⟨0, 1, fun k _ => ?_⟩
   simp only [laws_toIntS.l0]
   rw [if_neg (by omega)]
   have := fill_all (fun i => l.getD i 0) (List.replicate l.length (0 : Int))
   rw [List.length_replicate] at this
   rw [this, range_id])
 refine ⟨K, fun k hk' => ?_⟩
 simp only [laws_toIntS.f]
 rw [if_pos (by omega), if_pos (by omega)]
 have e := hk k hk'
 simpa using e
theorem toKeySS_ev (l : List (List S48)) (hin : inKeySS l) : Ev (fun k => laws_toKeySS.f k l) (convKeySS l) := by
 have h := inKeySS_len hin
 have hl : ∀ i, i ≤ l.length → (fill (fun i => (l.getD i []).map toK) (List.replicate l.length ([] : List S38)) i).length = l.length := fun i hi => by rw [fill_length _ _ _ (by simpa using hi)]; simp
 obtain ⟨K, hk⟩ := evRange0 (σ := List (List S38)) l.length (fun k s i => laws_toKeySS.l0 k l s i) (fun i s => s = fill (fun i => (l.getD i []).map toK) (List.replicate l.length ([] : List S38)) i) (fun _ _ => convKeySS l) (List.replicate l.length ([] : List S38)) (fill_zero _ _).symm
  (by
   intro i s hi hs
   subst hs
   have h1 := hl i (by omega)
   have hr : rd_L2 l (i : Int) = l.getD i [] := by simp [rd_L2]
   obtain ⟨K, e⟩ := toKeyS_ev (l.getD i []) (inKeySS_at hin i hi)
   refine .inl ⟨_, rfl, rfl, K, 1, fun k hk => ?_⟩
   have e1 := e k hk
   simp only at e1
   simp only [laws_toKeySS.l0, hr, e1, Option.bind_some]
   rw [if_pos (by omega), if_pos (by omega), if_pos (by omega), w64s i (by omega), Int.toNat_natCast, fill_set _ _ _ (by simpa using hi) rfl])
  (by
   intro s hs
   subst hs
   refine ⟨0, 1, fun k _ => ?_⟩
   simp only [laws_toKeySS.l0]
   rw [if_neg (by omega)]
   have := fill_all (fun i => (l.getD i []).map toK) (List.replicate l.length ([] : List S38))
   rw [List.length_replicate] at this
   rw [this, range_map (fun x => x.map toK) l []]
   rfl)
 refine ⟨K, fun k hk' => ?_⟩
 simp only [laws_toKeySS.f]
 rw [if_pos (by omega), if_pos (by omega)]
 have e := hk k hk'
 simp only [Int.toNat_natCast]
 exact e
theorem toNode_ev (l : List (List S48)) (hin : inKeySS l) : Ev (fun k => laws_toNode.f k l) (convKeySS l) := by
 obtain ⟨K, e⟩ := toKeySS_ev l hin
 refine ⟨K, fun k hk => ?_⟩
 have e1 := e k hk
 simp only at e1
 simp only [laws_toNode.f, e1, Option.bind_some]
theorem toNodeS_ev (l : List (S87)) (hin : inNodeS l) : Ev (fun k => laws_toNodeS.f k l) (convNodeS l) := by
 have h := inNodeS_len hin
 have hl : ∀ i, i ≤ l.length → (fill (fun i => (⟨convKeySS (l.getD i z87).f0⟩ : S59)) (List.replicate l.length (z59 : S59)) i).length = l.length := fun i hi => by rw [fill_length _ _ _ (by simpa using hi)]; simp
 obtain ⟨K, hk⟩ := evRange0 (σ := List (S59)) l.length (fun k s i => laws_toNodeS.l0 k l s i) (fun i s => s = fill (fun i => (⟨convKeySS (l.getD i z87).f0⟩ : S59)) (List.replicate l.length (z59 : S59)) i) (fun _ _ => convNodeS l) (List.replicate l.length (z59 : S59)) (fill_zero _ _).symm
  (by
   intro i s hi hs
   subst hs
   have h1 := hl i (by omega)
   have hr : rd_T87 l (i : Int) = l.getD i z87 := by simp [rd_T87]
   obtain ⟨K, e⟩ := toNode_ev (l.getD i z87).f0 (inNodeS_at hin i hi)
   refine .inl ⟨_, rfl, rfl, K, 1, fun k hk => ?_⟩
   have e1 := e k hk
   simp only at e1
   simp only [laws_toNodeS.l0, hr, e1, Option.bind_some]
   rw [if_pos (by omega), if_pos (by omega), if_pos (by omega), w64s i (by omega), Int.toNat_natCast, fill_set _ _ _ (by simpa using hi) rfl])
  (by
   intro s hs
   subst hs
   refine ⟨0, 1, fun k _ => ?_⟩
   simp only [laws_toNodeS.l0]
   rw [if_neg (by omega)]
   have := fill_all (fun i => (⟨convKeySS (l.getD i z87).f0⟩ : S59)) (List.replicate l.length (z59 : S59))
   rw [List.length_replicate] at this
   rw [this, range_map (fun x => (⟨convKeySS x.f0⟩ : S59)) l z87]
   rfl)
 refine ⟨K, fun k hk' => ?_⟩
 simp only [laws_toNodeS.f]
 rw [if_pos (by omega), if_pos (by omega)]
 have e := hk k hk'
 simp only [Int.toNat_natCast]
 exact e
theorem toTree_ev (l : List Int) (n : List S87) (h1 : inIntS l) (h2 : inNodeS n) : Ev (fun k => laws_toTree.f k l n) (l, convNodeS n) := by
 obtain ⟨K, e⟩ := toIntS_ev l h1
 obtain ⟨K2, e2⟩ := toNodeS_ev n h2
 refine ⟨K + K2, fun k hk => ?_⟩
 have a1 := e k (by omega)
 have a2 := e2 k (by omega)
 simp only at a1 a2
 simp only [laws_toTree.f, a1, a2, Option.bind_some]
theorem impl_copyKeys_f (a : List S38) (h : a.length ≤ 4194304) : impl_copyKeys.f a = some a := by
 simp only [impl_copyKeys.f, Option.bind_some, List.length_nil, List.nil_append]
 rw [if_pos (by omega)]
theorem impl_copyNode_ev (ls : List (List S38)) (ho : okKeySS ls) : Ev (fun k => impl_copyNode.f k ls) ls := by
 have h := okKeySS_len ho
 obtain ⟨K, hk⟩ := evRange0 (σ := List (List S38)) ls.length (fun k s i => impl_copyNode.l0 k ls (ls.length : Int) i s) (fun i s => s = ls.take i) (fun _ _ => ls) [] (by simp)
  (by
   intro i s hi hs
   subst hs
   have hr : rd_L6 ls (i : Int) = ls.getD i [] := by simp [rd_L6]
   have hb := okKeySS_at ho i hi
   unfold okKeyS at hb
   have hc := impl_copyKeys_f (ls.getD i []) hb
   have hl : (ls.take i).length = i := by simp; omega
   refine .inl ⟨ls.take (i + 1), rfl, rfl, 0, 1, fun k _ => ?_⟩
   simp only [impl_copyNode.l0, hr, hc, Option.bind_some]
   rw [if_pos (by omega), if_pos (by omega), if_pos (by omega), if_pos (by omega), w64s i (by omega), take_getD ls i [] hi])
  (by
   intro s hs
   subst hs
   refine ⟨0, 1, fun k _ => ?_⟩
   simp only [impl_copyNode.l0]
   rw [if_neg (by omega), List.take_length])
 exact ⟨K, fun k hk' => hk k hk'⟩
theorem impl_copyInts_f (s : List Int) (h : s.length ≤ 4194304) : impl_copyInts.f s = some s := by
 simp only [impl_copyInts.f, Option.bind_some, List.length_nil, List.nil_append]
 rw [if_pos (by omega)]
theorem impl_within_f (a b c : Int) : impl_within.f a b c = some (decide (b ≤ a ∧ a ≤ c)) := by
 unfold impl_within.f
 by_cases h : a ≥ b
 ·rw [if_pos h]; congr 1; rw [Bool.eq_iff_iff]; simp; omega
 ·rw [if_neg h]; congr 1; rw [Bool.eq_iff_iff]; simp; omega
theorem impl_LessKey_f (a b : S38) : impl_LessKey.f a.f0 a.f1 a.f2 a.f3 a.f4 b.f0 b.f1 b.f2 b.f3 b.f4 = some (less a b) := by
 unfold impl_LessKey.f less
 split
 ·simp [*]
 ·split
  ·simp [*]
  ·simp [*]
theorem impl_SameSpot_f (a b : S38) : impl_SameSpot.f a.f0 a.f1 a.f2 a.f3 a.f4 b.f0 b.f1 b.f2 b.f3 b.f4 = some (same a b) := by
 unfold impl_SameSpot.f same
 split
 ·simp only [*, true_and, Option.some.injEq]; rw [Bool.eq_iff_iff]; simp
 ·simp [*]
theorem impl_SetPut_ev (l : List S38) (x : S38) (h : l.length ≤ 4194304) : Ev (fun k => impl_SetPut.f k l x.f0 x.f1 x.f2 x.f3 x.f4) (setPut l x) := by
 obtain ⟨K, hk⟩ := evRange0 (σ := List S38 × Bool) l.length (fun k s i => impl_SetPut.l0 k s.1 s.2 l (l.length : Int) i x.f0 x.f1 x.f2 x.f3 x.f4) (fun i s => s.1.length ≤ 2 * i) (fun i s => s.1 ++ putGo x (l.drop i) s.2) ([], false) (by simp)
  (by
   intro i s hi hs
   obtain ⟨out, put⟩ := s
   simp only at hs
   have hd := drop_getD l i z38 hi
   have hr : rd_T38 l (i : Int) = l.getD i z38 := by simp [rd_T38]
   refine .inl ⟨(out ++ (if put || less (l.getD i z38) x then [] else [x]) ++ (if same (l.getD i z38) x then [] else [l.getD i z38]), put || !less (l.getD i z38) x), ?_, ?_, 0, 2, fun k _ => ?_⟩
   ·simp only [List.length_append]; split <;> split <;> simp <;> omega
   ·simp only [hd, putGo, List.append_assoc]
   ·generalize hy : l.getD i z38 = y at *
    simp only [impl_SetPut.l0, hr]
    rw [if_pos (by omega), if_pos (by omega), if_pos (by omega)]
    rw [impl_LessKey_f]
    simp only [Option.bind_some, impl_SetPut.j1]
    have hw := w64s i (by omega)
    cases put <;> cases hl : less y x <;> cases hq : same y x <;>
     simp only [Bool.not_true, Bool.not_false, if_true, if_false, Bool.false_eq_true, reduceCtorEq, impl_SameSpot_f, Option.bind_some, hq, hw, Bool.or_true, Bool.true_or, Bool.or_false, Bool.false_or, List.append_nil, List.append_assoc] <;>
     (repeat rw [if_pos (by first | omega | (simp only [List.length_append, List.length_cons, List.length_nil]; omega))]) <;> rfl)
  (by
   intro s hs
   obtain ⟨out, put⟩ := s
   simp only at hs
   refine ⟨0, 1, fun k _ => ?_⟩
   simp only [impl_SetPut.l0]
   rw [if_neg (by omega)]
   cases put
   ·rw [if_neg (by simp), if_pos (by omega)]; simp [putGo]
   ·rw [if_pos rfl]; simp [putGo])
 exact ⟨K, fun k hk' => hk k hk'⟩
theorem impl_MergeSets_ev (a b : List S38) (h : a.length + b.length ≤ 4194304) : Ev (fun k => impl_MergeSets.f k a b) (mergeSets a b) := by
 obtain ⟨K, hk⟩ := evRange0 (σ := List S38) b.length (fun k s i => impl_MergeSets.l0 k s b (b.length : Int) i) (fun i s => s.length ≤ a.length + i) (fun i s => mergeSets s (b.drop i)) a (by simp)
  (by
   intro i s hi hs
   have hd := drop_getD b i z38 hi
   have hr : rd_T38 b (i : Int) = b.getD i z38 := by simp [rd_T38]
   obtain ⟨K, e⟩ := impl_SetPut_ev s (b.getD i z38) (by omega)
   have hlen := setPut_length s (b.getD i z38)
   refine .inl ⟨setPut s (b.getD i z38), by omega, by simp only [hd, mergeSets, List.foldl_cons], K, 1, fun k hk => ?_⟩
   simp only [impl_MergeSets.l0, hr, e k hk, Option.bind_some]
   rw [if_pos (by omega), if_pos (by omega), if_pos (by omega), w64s i (by omega)])
  (by
   intro s hs
   refine ⟨0, 1, fun k _ => ?_⟩
   simp only [impl_MergeSets.l0]
   rw [if_neg (by omega)]
   simp [mergeSets])
 refine ⟨K, fun k hk' => ?_⟩
 simp only [impl_MergeSets.f, impl_copyKeys_f a (by omega), Option.bind_some]
 exact hk k hk'
theorem impl_Drop_ev (l : List S38) (h : l.length ≤ 4194304) : Ev (fun k => impl_Drop.f k l) (dropNone l) := by
 obtain ⟨K, hk⟩ := evRange0 (σ := List S38) l.length (fun k s i => impl_Drop.l0 k s l (l.length : Int) i) (fun i s => s.length ≤ i) (fun i s => s ++ dropNone (l.drop i)) [] (by simp)
  (by
   intro i s hi hs
   have hd := drop_getD l i z38 hi
   have hr : rd_T38 l (i : Int) = l.getD i z38 := by simp [rd_T38]
   generalize l.getD i z38 = y at *
   by_cases h1 : y.f2 = 0
   ·refine .inl ⟨s, by omega, ?_, 0, 1, fun k _ => ?_⟩
    ·rw [hd, dropNone, dropNone, List.filter_cons_of_neg (by simp [h1])]
    ·simp only [impl_Drop.l0, hr]
     rw [if_pos (by omega), if_pos (by omega), if_pos (by omega), if_pos h1, w64s i (by omega)]
   ·refine .inl ⟨s ++ [y], by simp; omega, ?_, 0, 1, fun k _ => ?_⟩
    ·rw [hd, dropNone, dropNone, List.filter_cons_of_pos (by simp [h1]), List.append_assoc]; rfl
    ·simp only [impl_Drop.l0, hr]
     rw [if_pos (by omega), if_pos (by omega), if_pos (by omega), if_neg h1, if_pos (by omega), w64s i (by omega)])
  (by
   intro s _
   refine ⟨0, 1, fun k _ => ?_⟩
   simp only [impl_Drop.l0]
   rw [if_neg (by omega)]
   simp [dropNone])
 exact ⟨K, fun k hk' => hk k hk'⟩
theorem impl_NodeKeys_ev (ls : List (List S38)) (ho : okKeySS ls) : Ev (fun k => impl_NodeKeys.f k ls) (nodeKeys ls) := by
 have h := okKeySS_len ho
 have hb := countK_bulk ls
 have hbb : bulkKeySS ls ≤ 4194304 := ho
 obtain ⟨K, hk⟩ := evRange0 (σ := List S38) ls.length (fun k s i => impl_NodeKeys.l0 k s ls (ls.length : Int) i) (fun i s => s.length + countK (ls.drop i) ≤ countK ls) (fun i s => dropNone (mergeAll s (ls.drop i))) [] (by simp)
  (by
   intro i s hi hs
   have hd := drop_getD ls i [] hi
   have hr : rd_L6 ls (i : Int) = ls.getD i [] := by simp [rd_L6]
   rw [countK_drop ls i hi] at hs
   obtain ⟨K, e⟩ := impl_MergeSets_ev s (ls.getD i []) (by omega)
   have hl := mergeSets_length s (ls.getD i [])
   refine .inl ⟨mergeSets s (ls.getD i []), by omega, by rw [hd]; rfl, K, 1, fun k hk => ?_⟩
   have e1 := e k hk
   simp only at e1
   simp only [impl_NodeKeys.l0, hr, e1, Option.bind_some]
   rw [if_pos (by omega), if_pos (by omega), if_pos (by omega), w64s i (by omega)])
  (by
   intro s hs
   simp only [List.drop_length, countK] at hs
   obtain ⟨K, e⟩ := impl_Drop_ev s (by omega)
   refine ⟨K, 1, fun k hk => ?_⟩
   have e1 := e k hk
   simp only at e1
   simp only [impl_NodeKeys.l0, e1, Option.bind_some]
   rw [if_neg (by omega)]
   simp [mergeAll])
 exact ⟨K, fun k hk' => hk k hk'⟩
theorem impl_NodeNew_ev (l : List S38) (h : l.length ≤ 4194304) : Ev (fun _ => impl_NodeNew.f l) (nodeNew l) := by
 refine evOf fun _ => ?_
 simp only [impl_NodeNew.f, impl_copyKeys.f, nodeNew, Option.bind_some, List.nil_append, List.length_nil, Nat.zero_add]
 by_cases c : l.length = 0
 ·rw [if_pos (by omega), if_pos c]
 ·rw [if_neg (by omega), if_neg c, if_pos (by omega)]
  rfl
theorem impl_NodePack_ev (ls : List (List S38)) (ho : okKeySS ls) : Ev (fun k => impl_NodePack.f k ls) (nodeNew (nodeKeys ls)) := by
 have h1 := nodeKeys_length ls
 have h2 := countK_bulk ls
 have h3 : bulkKeySS ls ≤ 4194304 := ho
 unfold impl_NodePack.f
 refine Ev.bind (impl_NodeKeys_ev ls ho) (Ev.bind (impl_NodeNew_ev _ (by omega)) (Ev.now _))
theorem eqIntS_ev (l : List Int) (ho : okIntS l) : Ev (fun k => laws_eqIntS.f k l l) true := by
 have h : l.length ≤ 4194304 := ho
 obtain ⟨K, hk⟩ := evRange0 (σ := Unit) l.length (fun k _ i => laws_eqIntS.l0 k l l i) (fun _ _ => True) (fun _ _ => true) () trivial
  (by
   intro i _ hi _
   refine .inl ⟨(), trivial, rfl, 0, 1, fun k _ => ?_⟩
   simp only [laws_eqIntS.l0]
   rw [if_pos (by omega), if_pos (by omega), if_pos (by omega), if_pos trivial, w64s i (by omega)])
  (by
   intro _ _
   refine ⟨0, 1, fun k _ => ?_⟩
   simp only [laws_eqIntS.l0]
   rw [if_neg (by omega)])
 refine ⟨K, fun k hk' => ?_⟩
 simp only [laws_eqIntS.f]
 rw [if_pos trivial]
 exact hk k hk'
theorem eqKey_refl (x : S38) : laws_eqKey.f x.f0 x.f1 x.f2 x.f3 x.f4 x.f0 x.f1 x.f2 x.f3 x.f4 = some true := by simp [laws_eqKey.f]
theorem eqKeyS_ev (l : List S38) (ho : okKeyS l) : Ev (fun k => laws_eqKeyS.f k l l) true := by
 have h : l.length ≤ 4194304 := ho
 obtain ⟨K, hk⟩ := evRange0 (σ := Unit) l.length (fun k _ i => laws_eqKeyS.l0 k l l i) (fun _ _ => True) (fun _ _ => true) () trivial
  (by
   intro i _ hi _
   refine .inl ⟨(), trivial, rfl, 0, 1, fun k _ => ?_⟩
   simp only [laws_eqKeyS.l0]
   rw [if_pos (by omega), if_pos (by omega), if_pos (by omega), eqKey_refl, w64s i (by omega)]
   rfl)
  (by
   intro _ _
   refine ⟨0, 1, fun k _ => ?_⟩
   simp only [laws_eqKeyS.l0]
   rw [if_neg (by omega)])
 refine ⟨K, fun k hk' => ?_⟩
 simp only [laws_eqKeyS.f]
 rw [if_pos trivial]
 exact hk k hk'
theorem eqKeySS_ev (l : List (List S38)) (ho : okKeySS l) : Ev (fun k => laws_eqKeySS.f k l l) true := by
 have h := okKeySS_len ho
 obtain ⟨K, hk⟩ := evRange0 (σ := Unit) l.length (fun k _ i => laws_eqKeySS.l0 k l l i) (fun _ _ => True) (fun _ _ => true) () trivial
  (by
   intro i _ hi _
   have hr : rd_L6 l (i : Int) = l.getD i [] := by simp [rd_L6]
   obtain ⟨K, e⟩ := eqKeyS_ev (l.getD i []) (okKeySS_at ho i hi)
   refine .inl ⟨(), trivial, rfl, K, 1, fun k hk => ?_⟩
   have e1 := e k hk
   simp only at e1
   simp only [laws_eqKeySS.l0, hr, e1, Option.bind_some]
   rw [if_pos (by omega), if_pos (by omega), if_pos (by omega), if_pos trivial, w64s i (by omega)])
  (by
   intro _ _
   refine ⟨0, 1, fun k _ => ?_⟩
   simp only [laws_eqKeySS.l0]
   rw [if_neg (by omega)])
 refine ⟨K, fun k hk' => ?_⟩
 simp only [laws_eqKeySS.f]
 rw [if_pos trivial]
 exact hk k hk'
theorem eqNode_ev (l : List (List S38)) (ho : okKeySS l) : Ev (fun k => laws_eqNode.f k l l) true := by
 obtain ⟨K, e⟩ := eqKeySS_ev l ho
 refine ⟨K, fun k hk => ?_⟩
 have e1 := e k hk
 simp only at e1
 simp only [laws_eqNode.f, e1, Option.bind_some]
 rfl
theorem eqNodeS_ev (l : List (S59)) (ho : okNodeS l) : Ev (fun k => laws_eqNodeS.f k l l) true := by
 have h := okNodeS_len ho
 obtain ⟨K, hk⟩ := evRange0 (σ := Unit) l.length (fun k _ i => laws_eqNodeS.l0 k l l i) (fun _ _ => True) (fun _ _ => true) () trivial
  (by
   intro i _ hi _
   have hr : rd_T59 l (i : Int) = l.getD i z59 := by simp [rd_T59]
   obtain ⟨K, e⟩ := eqNode_ev (l.getD i z59).f0 (okNodeS_at ho i hi)
   refine .inl ⟨(), trivial, rfl, K, 1, fun k hk => ?_⟩
   have e1 := e k hk
   simp only at e1
   simp only [laws_eqNodeS.l0, hr, e1, Option.bind_some]
   rw [if_pos (by omega), if_pos (by omega), if_pos (by omega), if_pos trivial, w64s i (by omega)])
  (by
   intro _ _
   refine ⟨0, 1, fun k _ => ?_⟩
   simp only [laws_eqNodeS.l0]
   rw [if_neg (by omega)])
 refine ⟨K, fun k hk' => ?_⟩
 simp only [laws_eqNodeS.f]
 rw [if_pos trivial]
 exact hk k hk'
theorem eqTree_ev (l : List Int) (n : List S59) (h1 : okIntS l) (h2 : okNodeS n) : Ev (fun k => laws_eqTree.f k l n l n) true := by
 obtain ⟨K, e⟩ := eqIntS_ev l h1
 obtain ⟨K2, e2⟩ := eqNodeS_ev n h2
 refine ⟨K + K2, fun k hk => ?_⟩
 have a1 := e k (by omega)
 have a2 := e2 k (by omega)
 simp only at a1 a2
 simp only [laws_eqTree.f, a1, a2, Option.bind_some]
 rfl
def mkIntS (l : List Int) (a : Int) : List Int := (List.range l.length).map fun (i : Nat) => a + (i : Int)
theorem mkIntS_length (l : List Int) (a : Int) : (mkIntS l a).length = l.length := by simp [mkIntS]
theorem markIntS_ev (l : List Int) (a : Int) (ho : okIntS l) (h0 : 0 ≤ a) (h1 : a ≤ 1099511627776) : Ev (fun k => laws_markIntS.f k l a) (a + cntIntS l, mkIntS l a) := by
 have h : l.length ≤ 4194304 := ho
 obtain ⟨K, hk⟩ := evRange0 (σ := List Int × Int) l.length (fun k s i => laws_markIntS.l0 k s.1 s.2 i) (fun i s => s = (fill (fun i => a + (i : Int)) l i, a + i)) (fun _ _ => (a + cntIntS l, mkIntS l a)) (l, a) (by simp [fill_zero])
  (by
   intro i s hi hs
   subst hs
   refine .inl ⟨_, rfl, rfl, 0, 1, fun k _ => ?_⟩
   have hl := fill_length (fun i => a + (i : Int)) l i (by omega)
   simp only [laws_markIntS.l0]
   rw [if_pos (by omega), if_pos (by omega), w64 (x := a + (i : Int) + 1) (by omega) (by omega), w64s i (by omega), Int.toNat_natCast, fill_set _ l i hi rfl]
   congr 1
   push_cast
   omega)
  (by
   intro s hs
   subst hs
   refine ⟨0, 1, fun k _ => ?_⟩
   have hl := fill_length (fun i => a + (i : Int)) l l.length (by omega)
   simp only [laws_markIntS.l0]
   rw [if_neg (by omega), fill_all]
   rfl)
 exact ⟨K, fun k hk' => hk k hk'⟩
def mkK (a : Int) (i : Nat) : S38 := ⟨a + 5 * i, a + 5 * i + 1, a + 5 * i + 2, a + 5 * i + 3, a + 5 * i + 4⟩
def mkKeyS (l : List S38) (a : Int) : List S38 := (List.range l.length).map (mkK a)
theorem mkKeyS_length (l : List S38) (a : Int) : (mkKeyS l a).length = l.length := by simp [mkKeyS]
theorem markKeyS_ev (l : List S38) (a : Int) (ho : okKeyS l) (h0 : 0 ≤ a) (h1 : a ≤ 1099511627776) : Ev (fun k => laws_markKeyS.f k l a) (a + cntKeyS l, mkKeyS l a) := by
 have h : l.length ≤ 4194304 := ho
 obtain ⟨K, hk⟩ := evRange0 (σ := List S38 × Int) l.length (fun k s i => laws_markKeyS.l0 k s.1 s.2 i) (fun i s => s = (fill (mkK a) l i, a + 5 * i)) (fun _ _ => (a + cntKeyS l, mkKeyS l a)) (l, a) (by simp [fill_zero])
  (by
   intro i s hi hs
   subst hs
   refine .inl ⟨_, rfl, rfl, 0, 1, fun k _ => ?_⟩
   have hl := fill_length (mkK a) l i (by omega)
   simp only [laws_markKeyS.l0]
   rw [if_pos (by omega), if_pos (by omega)]
   simp only [Option.bind_some]
   rw [w64 (x := a + 5 * (i : Int) + 1) (by omega) (by omega), w64 (x := a + 5 * (i : Int) + 1 + 1) (by omega) (by omega), w64 (x := a + 5 * (i : Int) + 1 + 1 + 1) (by omega) (by omega), w64 (x := a + 5 * (i : Int) + 1 + 1 + 1 + 1) (by omega) (by omega), w64 (x := a + 5 * (i : Int) + 1 + 1 + 1 + 1 + 1) (by omega) (by omega), w64s i (by omega), Int.toNat_natCast]
   have hr : ∀ (m : List S38) (v : S38), i < m.length → rd_T38 (m.set i v) (i : Int) = v := fun m v hm => by simp [rd_T38, hm]
   rw [hr _ _ (by omega), hr _ _ (by simp; omega), hr _ _ (by simp; omega), hr _ _ (by simp; omega)]
   simp only [List.set_set]
   rw [fill_set (mkK a) l i hi (by simp only [mkK]; congr 1 <;> omega)]
   congr 1
   push_cast
   omega)
  (by
   intro s hs
   subst hs
   refine ⟨0, 1, fun k _ => ?_⟩
   have hl := fill_length (mkK a) l l.length (by omega)
   simp only [laws_markKeyS.l0]
   rw [if_neg (by omega), fill_all]
   rfl)
 exact ⟨K, fun k hk' => hk k hk'⟩
theorem heldIntS_ev (l : List Int) (a : Int) (ho : okIntS l) (h0 : 0 ≤ a) (h1 : a ≤ 1099511627776) : Ev (fun k => laws_heldIntS.f k (mkIntS l a) a) (a + cntIntS l) := by
 have h : l.length ≤ 4194304 := ho
 have hl := mkIntS_length l a
 obtain ⟨K, hk⟩ := evRange0 (σ := Int) l.length (fun k s i => laws_heldIntS.l0 k (mkIntS l a) s i) (fun i s => s = a + i) (fun _ _ => a + cntIntS l) a (by simp)
  (by
   intro i s hi hs
   subst hs
   refine .inl ⟨_, rfl, rfl, 0, 1, fun k _ => ?_⟩
   have hr : rd (mkIntS l a) (i : Int) = a + (i : Int) := by
    unfold mkIntS
    rw [rd_nat, range_getD _ _ _ _ hi]
   simp only [laws_heldIntS.l0]
   rw [if_pos (by omega), if_pos (by omega), if_pos hr, w64 (x := a + (i : Int) + 1) (by omega) (by omega), w64s i (by omega)]
   congr 1
   push_cast
   omega)
  (by
   intro s hs
   subst hs
   refine ⟨0, 1, fun k _ => ?_⟩
   simp only [laws_heldIntS.l0]
   rw [if_neg (by omega)]
   rfl)
 exact ⟨K, fun k hk' => hk k hk'⟩
theorem heldKeyS_ev (l : List S38) (a : Int) (ho : okKeyS l) (h0 : 0 ≤ a) (h1 : a ≤ 1099511627776) : Ev (fun k => laws_heldKeyS.f k (mkKeyS l a) a) (a + cntKeyS l) := by
 have h : l.length ≤ 4194304 := ho
 have hl := mkKeyS_length l a
 obtain ⟨K, hk⟩ := evRange0 (σ := Int) l.length (fun k s i => laws_heldKeyS.l0 k (mkKeyS l a) s i) (fun i s => s = a + 5 * i) (fun _ _ => a + cntKeyS l) a (by simp)
  (by
   intro i s hi hs
   subst hs
   refine .inl ⟨_, rfl, rfl, 0, 1, fun k _ => ?_⟩
   have hr : rd_T38 (mkKeyS l a) (i : Int) = mkK a i := by
    unfold rd_T38 mkKeyS
    rw [Int.toNat_natCast, range_getD _ _ _ _ hi]
   simp only [laws_heldKeyS.l0]
   rw [if_pos (by omega), if_pos (by omega), hr]
   rw [w64 (x := a + 5 * (i : Int) + 1) (by omega) (by omega), w64 (x := a + 5 * (i : Int) + 1 + 1) (by omega) (by omega), w64 (x := a + 5 * (i : Int) + 1 + 1 + 1) (by omega) (by omega), w64 (x := a + 5 * (i : Int) + 1 + 1 + 1 + 1) (by omega) (by omega), w64 (x := a + 5 * (i : Int) + 1 + 1 + 1 + 1 + 1) (by omega) (by omega), w64s i (by omega)]
   rw [if_pos (show (mkK a i).f0 = a + 5 * (i : Int) from rfl), if_pos (show (mkK a i).f1 = a + 5 * (i : Int) + 1 from rfl), if_pos (show (mkK a i).f2 = a + 5 * (i : Int) + 1 + 1 by simp only [mkK]; omega), if_pos (show (mkK a i).f3 = a + 5 * (i : Int) + 1 + 1 + 1 by simp only [mkK]; omega), if_pos (show (mkK a i).f4 = a + 5 * (i : Int) + 1 + 1 + 1 + 1 by simp only [mkK]; omega)]
   congr 1
   push_cast
   omega)
  (by
   intro s hs
   subst hs
   refine ⟨0, 1, fun k _ => ?_⟩
   simp only [laws_heldKeyS.l0]
   rw [if_neg (by omega)]
   rfl)
 exact ⟨K, fun k hk' => hk k hk'⟩
theorem cntKeyS_nn' (x : List S38) : 0 ≤ cntKeyS x := by unfold cntKeyS; omega
def cntKeySS (l : List (List S38)) : Int := cntL cntKeyS l
def mkKeySS (l : List (List S38)) (a : Int) : List (List S38) := mkL mkKeyS cntKeyS l a
theorem cntKeySS_nn0 (l : List (List S38)) : 0 ≤ cntKeySS l := cntL_nn cntKeyS cntKeyS_nn' l
theorem cntKeySS_bulk : ∀ l : List (List S38), cntKeySS l ≤ 5 * (bulkKeySS l : Int)
 | [] => by simp [cntKeySS, cntL, bulkKeySS]
 | x :: xs => by
  have := cntKeySS_bulk xs
  simp only [cntKeySS] at this
  simp only [cntKeySS, cntL, bulkKeySS, cntKeyS]
  push_cast
  omega
theorem cntKeySS_nn {l : List (List S38)} (h : okKeySS l) : 0 ≤ cntKeySS l ∧ cntKeySS l ≤ 20971520 := by
 have := cntKeySS_bulk l
 have := cntKeySS_nn0 l
 unfold okKeySS at h
 omega
theorem cntKeySS_take (l : List (List S38)) (i : Nat) : 0 ≤ cntKeySS (l.take i) ∧ cntKeySS (l.take i) ≤ cntKeySS l := ⟨cntKeySS_nn0 _, cntL_take_le cntKeyS cntKeyS_nn' l i⟩
theorem heldKeySS_ev (l : List (List S38)) (a : Int) (ho : okKeySS l) (h0 : 0 ≤ a) (h1 : a ≤ 1000000000000) : Ev (fun k => laws_heldKeySS.f k (mkKeySS l a) a) (a + cntKeySS l) := by
 have h := okKeySS_len ho
 have hl : (mkKeySS l a).length = l.length := mkL_length _ _ _ _
 have hc := cntKeySS_nn ho
 obtain ⟨K, hk⟩ := evRange0 (σ := Int) l.length (fun k s i => laws_heldKeySS.l0 k (mkKeySS l a) s i) (fun i s => s = a + cntKeySS (l.take i)) (fun _ _ => a + cntKeySS l) a (by simp [cntKeySS, cntL])
  (by
   intro i s hi hs
   subst hs
   have ht := cntKeySS_take l i
   have hr : rd_L6 (mkKeySS l a) (i : Int) = mkKeyS (l.getD i []) (a + cntKeySS (l.take i)) := by
    unfold rd_L6
    rw [Int.toNat_natCast]
    exact mkL_getD mkKeyS cntKeyS [] l a i hi
   obtain ⟨K, e⟩ := heldKeyS_ev (l.getD i []) (a + cntKeySS (l.take i)) (okKeySS_at ho i hi) (by omega) (by omega)
   have hs' : cntKeySS (l.take (i + 1)) = cntKeySS (l.take i) + cntKeyS (l.getD i []) := cntL_take cntKeyS [] l i hi
   have hn := cntKeyS_nn' (l.getD i [])
   refine .inl ⟨_, rfl, rfl, K, 1, fun k hk => ?_⟩
   have e1 := e k hk
   simp only at e1
   simp only [laws_heldKeySS.l0, hr, e1, Option.bind_some]
   rw [if_pos (by omega), if_pos (by omega), if_neg (by omega), w64s i (by omega), hs']
   congr 1
   omega)
  (by
   intro s hs
   subst hs
   refine ⟨0, 1, fun k _ => ?_⟩
   simp only [laws_heldKeySS.l0]
   rw [if_neg (by omega), List.take_length])
 exact ⟨K, fun k hk' => hk k hk'⟩
def mkNode (x : S59) (a : Int) : S59 := ⟨mkKeySS x.f0 a⟩
def cntNode (x : S59) : Int := cntKeySS x.f0
theorem cntNode_nn (x : S59) : 0 ≤ cntNode x := cntKeySS_nn0 x.f0
def cntNodeS (l : List S59) : Int := cntL cntNode l
def mkNodeS (l : List S59) (a : Int) : List S59 := mkL mkNode cntNode l a
theorem cntNodeS_nn0 (l : List S59) : 0 ≤ cntNodeS l := cntL_nn cntNode cntNode_nn l
theorem cntNodeS_bulk : ∀ l : List S59, cntNodeS l ≤ 5 * (bulkNodeS l : Int)
 | [] => by simp [cntNodeS, cntL, bulkNodeS]
 | x :: xs => by
  have := cntNodeS_bulk xs
  have := cntKeySS_bulk x.f0
  simp only [cntNodeS] at *
  simp only [cntL, bulkNodeS, cntNode] at *
  push_cast
  omega
theorem cntNodeS_nn {l : List S59} (h : okNodeS l) : 0 ≤ cntNodeS l ∧ cntNodeS l ≤ 20971520 := by
 have := cntNodeS_bulk l
 have := cntNodeS_nn0 l
 unfold okNodeS at h
 omega
theorem cntNodeS_take (l : List S59) (i : Nat) : 0 ≤ cntNodeS (l.take i) ∧ cntNodeS (l.take i) ≤ cntNodeS l := ⟨cntNodeS_nn0 _, cntL_take_le cntNode cntNode_nn l i⟩
theorem heldNodeS_ev (l : List S59) (a : Int) (ho : okNodeS l) (h0 : 0 ≤ a) (h1 : a ≤ 900000000000) : Ev (fun k => laws_heldNodeS.f k (mkNodeS l a) a) (a + cntNodeS l) := by
 have h := okNodeS_len ho
 have hl : (mkNodeS l a).length = l.length := mkL_length _ _ _ _
 have hc := cntNodeS_nn ho
 obtain ⟨K, hk⟩ := evRange0 (σ := Int) l.length (fun k s i => laws_heldNodeS.l0 k (mkNodeS l a) s i) (fun i s => s = a + cntNodeS (l.take i)) (fun _ _ => a + cntNodeS l) a (by simp [cntNodeS, cntL])
  (by
   intro i s hi hs
   subst hs
   have ht := cntNodeS_take l i
   have hr : rd_T59 (mkNodeS l a) (i : Int) = mkNode (l.getD i z59) (a + cntNodeS (l.take i)) := by
    unfold rd_T59
    rw [Int.toNat_natCast]
    exact mkL_getD mkNode cntNode z59 l a i hi
   obtain ⟨K, e⟩ := heldKeySS_ev (l.getD i z59).f0 (a + cntNodeS (l.take i)) (okNodeS_at ho i hi) (by omega) (by omega)
   have hs' : cntNodeS (l.take (i + 1)) = cntNodeS (l.take i) + cntNode (l.getD i z59) := cntL_take cntNode z59 l i hi
   have hn : 0 ≤ cntKeySS (l.getD i z59).f0 := cntKeySS_nn0 _
   refine .inl ⟨_, rfl, rfl, K, 1, fun k hk => ?_⟩
   have e1 := e k hk
   simp only at e1
   simp only [laws_heldNodeS.l0, hr, mkNode, e1, Option.bind_some]
   rw [if_pos (by omega), if_pos (by omega), if_neg (by omega), w64s i (by omega), hs']
   unfold cntNode
   congr 1
   omega)
  (by
   intro s hs
   subst hs
   refine ⟨0, 1, fun k _ => ?_⟩
   simp only [laws_heldNodeS.l0]
   rw [if_neg (by omega), List.take_length])
 exact ⟨K, fun k hk' => hk k hk'⟩
theorem heldTree_ev (l : List Int) (m : List S59) (a : Int) (ho : okIntS l) (ho2 : okNodeS m) (h0 : 0 ≤ a) (h1 : a ≤ 800000000000) : Ev (fun k => laws_heldTree.f k (mkIntS l a) (mkNodeS m (a + cntIntS l)) a) (a + (cntIntS l + cntNodeS m)) := by
 have hc := cntIntS_nn ho
 have hc2 := cntNodeS_nn ho2
 unfold laws_heldTree.f
 refine Ev.bind (heldIntS_ev l a ho h0 (by omega)) ?_
 simp only [if_neg (show ¬ a + cntIntS l < 0 by omega)]
 refine Ev.bind (heldNodeS_ev m _ ho2 (by omega) (by omega)) ?_
 simp only [if_neg (show ¬ a + cntIntS l + cntNodeS m < 0 by omega)]
 rw [show a + (cntIntS l + cntNodeS m) = a + cntIntS l + cntNodeS m by omega]
 exact Ev.now _
end Go.Proofs.Ytamjbjkbineafaa.Pure
