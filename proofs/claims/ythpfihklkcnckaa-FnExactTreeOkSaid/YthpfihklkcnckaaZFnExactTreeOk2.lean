/- The law: the functions that it reaches, each with the proof that the machine's call comes to its answer, what they answer, and the law's row; each theorem says its conditions itself. -/
import Derived.Test.YthpfihklkcnckaaZFnExactTreeOk1
namespace Go.Proofs.Ythpfihklkcnckaa.PFnExactTreeOk
open Go.RowKit Go.Proofs.YthpfihklkcnckaaW.PrintWords Go.Proofs.YthpfihklkcnckaaW.PrintLast Go.Proofs.YthpfihklkcnckaaW.PrintMore
attribute [local go_sem] max2_int min2_int max_two min_two max_three min_three max_four min_four   -- for this text's walks alone
set_option linter.unusedVariables false
set_option linter.unusedSimpArgs false
def spec_l4Rises.l0 : Nat → List (S27) → Int → Option (Bool)
 | 0, _, _ => none
 | k + 1, x0, x3 => if x3 < (x0.length : Int) then (if 0 ≤ (wrap64 (x3 - 1)) then (if (wrap64 (x3 - 1)) < (x0.length : Int) then (if 0 ≤ x3 then ((spec_LessKey.f ((rd_T27 x0 (wrap64 (x3 - 1))).f0) ((rd_T27 x0 (wrap64 (x3 - 1))).f1) ((rd_T27 x0 (wrap64 (x3 - 1))).f2) ((rd_T27 x0 (wrap64 (x3 - 1))).f3) ((rd_T27 x0 (wrap64 (x3 - 1))).f4) ((rd_T27 x0 x3).f0) ((rd_T27 x0 x3).f1) ((rd_T27 x0 x3).f2) ((rd_T27 x0 x3).f3) ((rd_T27 x0 x3).f4)).bind fun t255 => (if t255 = true then (spec_l4Rises.l0 k x0 (wrap64 (x3 + 1))) else (some false))) else (none)) else (none)) else (none)) else (some true)
def spec_l4Rises.f (k : Nat) (l0 : List (S27)) : Option (Bool) := spec_l4Rises.l0 k l0 1
def spec_l4Rises.T4 : Bool × List (List Nat × List Nat) := (true, [([], []), ([], []), ([1], [1]), ([0, 2], [0, 2]), ([3], [3]), ([], []), ([], []), ([5, 6], [5, 6]), ([7], [7]), ([4, 8], [4, 8]), ([9], [9])])
def spec_l4Rises.B4 : List Nat := [0, 0, 2, 7, 15, 0, 0, 96, 224, 511, 1023]
theorem spec_l4Rises.tab4 : rtab .any (opsOf Try.f90 4) = spec_l4Rises.T4 := by kernel_rfl
theorem spec_l4Rises.bits4 : waitsOk spec_l4Rises.T4.2 spec_l4Rises.B4 = true := by kernel_rfl
set_option maxHeartbeats 8000000 in
set_option maxRecDepth 100000 in
theorem spec_l4Rises.calls (k : Nat) (A0 : Option Addr) (c0 : Nat) (l0 : List (S27)) (r : Bool) (w : World) (hr0 : Kd.C k27 w A0 l0.length l0) (hc0 : l0.length ≤ c0) (h : spec_l4Rises.f k l0 = some r) :
  Calls Try.prog 90 #[.slice A0 l0.length c0] w fun e w' => e = .returned (.bool r) ∧ Below w.heap.size w w' := by
 have hu27 := Try.underlying27
 have HR0 := aA.mk hr0
 have HC0 := aA.mk hc0
 clear hr0 hc0
 have HB := aA.mk (Below.refl w.heap.size w)
 have H : (spec_l4Rises.l0 k l0 1) = some r := h
 clear h
 have H' := aA.mk H
 clear H
 go_enter Try.func90, Try.ntmps90
 go_wp2
 go_loopg [3] k (fun kq v3 w' => ∃ (x3_1 : Int), v3 = .int .i64 x3_1 ∧ aA (spec_l4Rises.l0 kq l0 x3_1 = some r) ∧ aA (kq ≤ k) ∧ aA (Below w.heap.size w w'))
 case atStart => exact ⟨(1), (by first | rfl | (simp; done) | (simp [*]; done)), H', ⟨Nat.le_refl _⟩, ⟨by repeat (first | (with_reducible first | exact HB.out | apply aE | apply aC | apply aD) | exact HB.out)⟩⟩
 case round =>
  clear H'
  obtain ⟨x3_1, rfl, HA, HK1, HB⟩ := hrel
  cases gk with
  | zero => exact absurd HA.out (by simp [spec_l4Rises.l0])
  | succ k1 =>
   have H := HA.out
   clear HA
   simp only [spec_l4Rises.l0] at H
   by_cases c2 : x3_1 < (l0.length : Int)
   ·rw [if_pos c2] at H
    have c2b0 : decide (x3_1 < (l0.length : Int)) = true := decide_eq_true c2
    clear c2
    obtain ⟨ji3, hji3⟩ : ∃ j_ : Int, (wrap64 (x3_1 - 1)) = j_ := ⟨_, rfl⟩
    replace H : (if 0 ≤ (ji3) then (if (ji3) < (l0.length : Int) then (if 0 ≤ x3_1 then ((spec_LessKey.f ((rd_T27 l0 (ji3)).f0) ((rd_T27 l0 (ji3)).f1) ((rd_T27 l0 (ji3)).f2) ((rd_T27 l0 (ji3)).f3) ((rd_T27 l0 (ji3)).f4) ((rd_T27 l0 x3_1).f0) ((rd_T27 l0 x3_1).f1) ((rd_T27 l0 x3_1).f2) ((rd_T27 l0 x3_1).f3) ((rd_T27 l0 x3_1).f4)).bind fun t255 => (if t255 = true then (spec_l4Rises.l0 k1 l0 (wrap64 (x3_1 + 1))) else (some false))) else (none)) else (none)) else (none)) = some r := by first | (rw [hji3] at H; exact H) | (simp only [hji3] at H ⊢; exact H)
    have hji3w : (IntKind.i64.wrap (x3_1 - 1)) = ji3 := (aT _).trans hji3
    by_cases c4 : 0 ≤ (ji3)
    ·rw [if_pos c4] at H
     have c4b0 : decide (0 ≤ (ji3)) = true := decide_eq_true c4
     clear c4
     by_cases c5 : (ji3) < (l0.length : Int)
     ·rw [if_pos c5] at H
      have c5b0 : decide ((ji3) < (l0.length : Int)) = true := decide_eq_true c5
      clear c5
      by_cases c6 : 0 ≤ x3_1
      ·rw [if_pos c6] at H
       have c6b0 : decide (0 ≤ x3_1) = true := decide_eq_true c6
       clear c6
       replace H := lF H
       obtain ⟨t255, A70, H⟩ := H
       replace H : (if t255 = true then (spec_l4Rises.l0 k1 l0 (wrap64 (x3_1 + 1))) else (some false)) = some r := H
       have A7 := aA.mk A70
       clear A70
       by_cases c8 : t255 = true
       ·subst c8
        have H1 : (spec_l4Rises.l0 k1 l0 (wrap64 (x3_1 + 1))) = some r := by rw [if_pos rfl] at H; exact H
        clear H
        have H := H1
        clear H1
        have H' := aA.mk H
        clear H
        try go_wp2
        have n0_ := aA.mk (aD HB.out)
        clear HB
        have HB := n0_
        clear n0_
        have p253 : 0 ≤ ((ji3) : Int) := lE (by first | (with_reducible assumption) | assumption)
        have q253 : (ji3) < (l0.length : Int) := lE (by first | (with_reducible assumption) | assumption)
        obtain ⟨ad253, e253, hx253_0, hx253_1, hx253_2, hx253_3, hx253_4⟩ := at_T27 HR0.out (ji3) p253 q253
        have hw253_4 := hx253_4
        have hw253_3 := hx253_3
        have hw253_2 := hx253_2
        have hw253_1 := hx253_1
        have hw253_0 := hx253_0
        cases e253
        replace hx253_0 := (HB.out.cell (lD w _ hx253_0)).trans hx253_0
        replace hx253_1 := (HB.out.cell (lD w _ hx253_1)).trans hx253_1
        replace hx253_2 := (HB.out.cell (lD w _ hx253_2)).trans hx253_2
        replace hx253_3 := (HB.out.cell (lD w _ hx253_3)).trans hx253_3
        replace hx253_4 := (HB.out.cell (lD w _ hx253_4)).trans hx253_4
        replace p253 := eq_true p253
        replace q253 := eq_true q253
        have p254 : 0 ≤ (x3_1 : Int) := lE (by first | (with_reducible assumption) | assumption)
        have q254 : x3_1 < (l0.length : Int) := lE (by first | (with_reducible assumption) | assumption)
        obtain ⟨ad254, e254, hx254_0, hx254_1, hx254_2, hx254_3, hx254_4⟩ := at_T27 HR0.out x3_1 p254 q254
        have hw254_4 := hx254_4
        have hw254_3 := hx254_3
        have hw254_2 := hx254_2
        have hw254_1 := hx254_1
        have hw254_0 := hx254_0
        obtain rfl : ad253 = ad254 := (by injection e254)
        replace hx254_0 := (HB.out.cell (lD w _ hx254_0)).trans hx254_0
        replace hx254_1 := (HB.out.cell (lD w _ hx254_1)).trans hx254_1
        replace hx254_2 := (HB.out.cell (lD w _ hx254_2)).trans hx254_2
        replace hx254_3 := (HB.out.cell (lD w _ hx254_3)).trans hx254_3
        replace hx254_4 := (HB.out.cell (lD w _ hx254_4)).trans hx254_4
        replace p254 := eq_true p254
        replace q254 := eq_true q254
        refine start_ (n := 11) (S := fun w' => w'.cell? (ad253.add (((ji3)).toNat * 5)) = some (.int .i64 ((rd_T27 l0 (ji3)).f0)) ∧ w'.cell? ⟨(ad253.add (((ji3)).toNat * 5)).block, (ad253.add (((ji3)).toNat * 5)).off + 1, none⟩ = some (.int .i64 ((rd_T27 l0 (ji3)).f1)) ∧ w'.cell? ⟨(ad253.add (((ji3)).toNat * 5)).block, (ad253.add (((ji3)).toNat * 5)).off + 2, none⟩ = some (.int .i64 ((rd_T27 l0 (ji3)).f2)) ∧ w'.cell? ⟨(ad253.add (((ji3)).toNat * 5)).block, (ad253.add (((ji3)).toNat * 5)).off + 3, none⟩ = some (.int .i64 ((rd_T27 l0 (ji3)).f3)) ∧ w'.cell? ⟨(ad253.add (((ji3)).toNat * 5)).block, (ad253.add (((ji3)).toNat * 5)).off + 4, none⟩ = some (.int .i64 ((rd_T27 l0 (ji3)).f4)) ∧ w'.cell? (ad253.add ((x3_1).toNat * 5)) = some (.int .i64 ((rd_T27 l0 x3_1).f0)) ∧ w'.cell? ⟨(ad253.add ((x3_1).toNat * 5)).block, (ad253.add ((x3_1).toNat * 5)).off + 1, none⟩ = some (.int .i64 ((rd_T27 l0 x3_1).f1)) ∧ w'.cell? ⟨(ad253.add ((x3_1).toNat * 5)).block, (ad253.add ((x3_1).toNat * 5)).off + 2, none⟩ = some (.int .i64 ((rd_T27 l0 x3_1).f2)) ∧ w'.cell? ⟨(ad253.add ((x3_1).toNat * 5)).block, (ad253.add ((x3_1).toNat * 5)).off + 3, none⟩ = some (.int .i64 ((rd_T27 l0 x3_1).f3)) ∧ w'.cell? ⟨(ad253.add ((x3_1).toNat * 5)).block, (ad253.add ((x3_1).toNat * 5)).off + 4, none⟩ = some (.int .i64 ((rd_T27 l0 x3_1).f4))) (ds := []) #[false, false, false, false, false, false, false, false, false, false, false] (by kernel_rfl) rfl rfl ⟨((HB.out.cell (lD w _ hw253_0)).trans hw253_0), ((HB.out.cell (lD w _ hw253_1)).trans hw253_1), ((HB.out.cell (lD w _ hw253_2)).trans hw253_2), ((HB.out.cell (lD w _ hw253_3)).trans hw253_3), ((HB.out.cell (lD w _ hw253_4)).trans hw253_4), ((HB.out.cell (lD w _ hw254_0)).trans hw254_0), ((HB.out.cell (lD w _ hw254_1)).trans hw254_1), ((HB.out.cell (lD w _ hw254_2)).trans hw254_2), ((HB.out.cell (lD w _ hw254_3)).trans hw254_3), ((HB.out.cell (lD w _ hw254_4)).trans hw254_4)⟩ (fun hHeld => ?_); refine with_tabW spec_l4Rises.tab4 spec_l4Rises.bits4 (fun HT_ HW_ => ?_)
        generalize wr.drew = w9 at HB hx253_0 hx253_1 hx253_2 hx253_3 hx253_4 hx254_0 hx254_1 hx254_2 hx254_3 hx254_4 hHeld ⊢
        refine aX (i := 0) (N := some 10) (v := ?_) (a' := ?_) #[true, false, false, false, false, false, false, false, false, false, false] rfl rfl (aW HT_.out (by kernel_rfl)) (fun _ _ _ h => h) (Or.inl ⟨by rfl, ?_⟩) ?_ ?_
        rotate_left
        ·intro w'
         go_simp
         with_reducible rfl
        rotate_left
        ·simp only [Act.put, lA, lB, lC, aT, aU]
         rfl
        refine aX (i := 1) (N := some 11) (v := ?_) (a' := ?_) #[true, true, false, false, false, false, false, false, false, false, false] rfl rfl (aW HT_.out (by kernel_rfl)) (fun _ _ _ h => h) (Or.inl ⟨by rfl, ?_⟩) ?_ ?_
        rotate_left
        ·intro w'
         go_simp
         with_reducible rfl
        rotate_left
        ·simp only [Act.put, lA, lB, lC, aT, aU]
         rfl
        refine aX (i := 2) (N := some 12) (v := ?_) (a' := ?_) #[true, true, true, false, false, false, false, false, false, false, false] rfl rfl (aW HT_.out (by kernel_rfl)) (fun _ _ _ h => h) (Or.inl ⟨by rfl, ?_⟩) ?_ ?_
        rotate_left
        ·intro w'
         go_simp
         with_reducible rfl
        rotate_left
        ·simp only [Act.put, lA, lB, lC, aT, aU]
         rfl
        refine aX (i := 3) (N := some 13) (v := ?_) (a' := ?_) #[true, true, true, true, false, false, false, false, false, false, false] rfl rfl (aW HT_.out (by kernel_rfl)) (fun _ _ _ h => h) (Or.inl ⟨by rfl, ?_⟩) ?_ ?_
        rotate_left
        ·intro w'
         go_simp
         with_reducible rfl
        rotate_left
        ·simp only [Act.put, lA, lB, lC, aT, aU]
         rfl
        refine aX (i := 5) (N := some 15) (v := ?_) (a' := ?_) #[true, true, true, true, false, true, false, false, false, false, false] rfl rfl (aW HT_.out (by kernel_rfl)) (fun _ _ _ h => h) (Or.inl ⟨by rfl, ?_⟩) ?_ ?_
        rotate_left
        ·intro w'
         go_simp
         with_reducible rfl
        rotate_left
        ·simp only [Act.put, lA, lB, lC, aT, aU]
         rfl
        refine aX (i := 6) (N := some 16) (v := ?_) (a' := ?_) #[true, true, true, true, false, true, true, false, false, false, false] rfl rfl (aW HT_.out (by kernel_rfl)) (fun _ _ _ h => h) (Or.inl ⟨by rfl, ?_⟩) ?_ ?_
        rotate_left
        ·intro w'
         go_simp
         with_reducible rfl
        rotate_left
        ·simp only [Act.put, lA, lB, lC, aT, aU]
         rfl
        refine aX (i := 7) (N := some 17) (v := ?_) (a' := ?_) #[true, true, true, true, false, true, true, true, false, false, false] rfl rfl (aW HT_.out (by kernel_rfl)) (fun _ _ _ h => h) (Or.inl ⟨by rfl, ?_⟩) ?_ ?_
        rotate_left
        ·intro w'
         go_simp
         with_reducible rfl
        rotate_left
        ·simp only [Act.put, lA, lB, lC, aT, aU]
         rfl
        refine take_ (i := 4) (N := some 14) (v := ?_) (a' := ?_) #[true, true, true, true, true, true, true, true, false, false, false] rfl rfl (bP HT_.out HW_.out (by kernel_rfl)) (fun _ _ _ h => h) (Or.inl ⟨by rfl, ?_⟩) hHeld ?_ ?_
        rotate_left
        ·rintro w' ⟨s0, s1, s2, s3, s4, s5, s6, s7, s8, s9⟩
         go_simp
         with_reducible rfl
        rotate_left
        ·simp only [Act.put, lA, lB, lC, aT, aU]
         rfl
        refine take_ (i := 8) (N := some 18) (v := ?_) (a' := ?_) #[true, true, true, true, true, true, true, true, true, false, false] rfl rfl (bP HT_.out HW_.out (by kernel_rfl)) (fun _ _ _ h => h) (Or.inl ⟨by rfl, ?_⟩) hHeld ?_ ?_
        rotate_left
        ·rintro w' ⟨s0, s1, s2, s3, s4, s5, s6, s7, s8, s9⟩
         go_simp
         with_reducible rfl
        rotate_left
        ·simp only [Act.put, lA, lB, lC, aT, aU]
         rfl
        refine one_ (i := 9) (N := some 19) #[true, true, true, true, true, true, true, true, true, true, false] rfl rfl (one_of HT_.out (by kernel_rfl)) (by decide) (fun K hK => ?_)
        refine goes_ Try.func93 (by kernel_rfl) rfl #[.agg #[.int .i64 ((rd_T27 l0 (ji3)).f0), .int .i64 ((rd_T27 l0 (ji3)).f1), .int .i64 ((rd_T27 l0 (ji3)).f2), .int .i64 ((rd_T27 l0 (ji3)).f3), .int .i64 ((rd_T27 l0 (ji3)).f4)], .agg #[.int .i64 ((rd_T27 l0 x3_1).f0), .int .i64 ((rd_T27 l0 x3_1).f1), .int .i64 ((rd_T27 l0 x3_1).f2), .int .i64 ((rd_T27 l0 x3_1).f3), .int .i64 ((rd_T27 l0 x3_1).f4)]] (by rfl) rfl rfl (by (try simp only [List.map_toArray, List.map_cons, List.map_nil]); first | done | (simp only [hji3]; rfl) | rfl | (simp only [List.length_drop, List.length_take]; rfl)) ?_
        with_reducible refine (spec_LessKey.calls ((rd_T27 l0 (ji3)).f0) ((rd_T27 l0 (ji3)).f1) ((rd_T27 l0 (ji3)).f2) ((rd_T27 l0 (ji3)).f3) ((rd_T27 l0 (ji3)).f4) ((rd_T27 l0 x3_1).f0) ((rd_T27 l0 x3_1).f1) ((rd_T27 l0 x3_1).f2) ((rd_T27 l0 x3_1).f3) ((rd_T27 l0 x3_1).f4) true _ A7.out).mono ?_
        rintro e w10 ⟨rfl, hb⟩
        refine ⟨_, rfl, ?_⟩
        have n0_ := aA.mk (aV (by repeat (first | (with_reducible first | exact HB.out | apply aE | apply aC | apply aD) | exact HB.out)) hb)
        clear HB
        have HB := n0_
        clear n0_
        (try clear hb)
        (try clear hb2)
        (try clear hk)
        (try clear hi)
        refine hK.out _ _ ⟨((HB.out.cell (lD w _ hw253_0)).trans hw253_0), ((HB.out.cell (lD w _ hw253_1)).trans hw253_1), ((HB.out.cell (lD w _ hw253_2)).trans hw253_2), ((HB.out.cell (lD w _ hw253_3)).trans hw253_3), ((HB.out.cell (lD w _ hw253_4)).trans hw253_4), ((HB.out.cell (lD w _ hw254_0)).trans hw254_0), ((HB.out.cell (lD w _ hw254_1)).trans hw254_1), ((HB.out.cell (lD w _ hw254_2)).trans hw254_2), ((HB.out.cell (lD w _ hw254_3)).trans hw254_3), ((HB.out.cell (lD w _ hw254_4)).trans hw254_4)⟩ (fun hHeld => ?_)
        clear hK K
        refine norm_ (a' := ?_) ?_ ?_
        rotate_left
        ·show Act.put _ (some 19) _ = _
         simp only [Act.put, lA, lB, lC, aT, aU]
         rfl
        refine aX (i := 10) (N := some 20) (v := ?_) (a' := ?_) #[true, true, true, true, true, true, true, true, true, true, true] rfl rfl (aW HT_.out (by kernel_rfl)) (fun _ _ _ h => h) (Or.inl ⟨by rfl, ?_⟩) ?_ ?_
        rotate_left
        ·intro w'
         go_simp
         with_reducible rfl
        rotate_left
        ·simp only [Act.put, lA, lB, lC, aT, aU]
         rfl
        refine done_ (done_of HT_.out (by kernel_rfl)) ?_
        try go_wp2
        go_roundg k1
        case measure => have := HK1.out; omega
        case rel => exact ⟨(wrap64 (x3_1 + 1)), (by first | rfl | (simp; done) | (simp [*]; done)), H', ⟨by have := HK1.out; omega⟩, ⟨by repeat (first | (with_reducible first | exact HB.out | apply aE | apply aC | apply aD) | exact HB.out)⟩⟩
       ·replace c8 := Bool.eq_false_iff.mpr c8
        subst c8
        have H1 : (some false) = some r := by rw [if_neg (show ¬ (false = true) by decide)] at H; exact H
        clear H
        have H := H1
        clear H1
        obtain rfl := Option.some.inj H
        try go_wp2
        have n0_ := aA.mk (aD HB.out)
        clear HB
        have HB := n0_
        clear n0_
        have p253 : 0 ≤ ((ji3) : Int) := lE (by first | (with_reducible assumption) | assumption)
        have q253 : (ji3) < (l0.length : Int) := lE (by first | (with_reducible assumption) | assumption)
        obtain ⟨ad253, e253, hx253_0, hx253_1, hx253_2, hx253_3, hx253_4⟩ := at_T27 HR0.out (ji3) p253 q253
        have hw253_4 := hx253_4
        have hw253_3 := hx253_3
        have hw253_2 := hx253_2
        have hw253_1 := hx253_1
        have hw253_0 := hx253_0
        cases e253
        replace hx253_0 := (HB.out.cell (lD w _ hx253_0)).trans hx253_0
        replace hx253_1 := (HB.out.cell (lD w _ hx253_1)).trans hx253_1
        replace hx253_2 := (HB.out.cell (lD w _ hx253_2)).trans hx253_2
        replace hx253_3 := (HB.out.cell (lD w _ hx253_3)).trans hx253_3
        replace hx253_4 := (HB.out.cell (lD w _ hx253_4)).trans hx253_4
        replace p253 := eq_true p253
        replace q253 := eq_true q253
        have p254 : 0 ≤ (x3_1 : Int) := lE (by first | (with_reducible assumption) | assumption)
        have q254 : x3_1 < (l0.length : Int) := lE (by first | (with_reducible assumption) | assumption)
        obtain ⟨ad254, e254, hx254_0, hx254_1, hx254_2, hx254_3, hx254_4⟩ := at_T27 HR0.out x3_1 p254 q254
        have hw254_4 := hx254_4
        have hw254_3 := hx254_3
        have hw254_2 := hx254_2
        have hw254_1 := hx254_1
        have hw254_0 := hx254_0
        obtain rfl : ad253 = ad254 := (by injection e254)
        replace hx254_0 := (HB.out.cell (lD w _ hx254_0)).trans hx254_0
        replace hx254_1 := (HB.out.cell (lD w _ hx254_1)).trans hx254_1
        replace hx254_2 := (HB.out.cell (lD w _ hx254_2)).trans hx254_2
        replace hx254_3 := (HB.out.cell (lD w _ hx254_3)).trans hx254_3
        replace hx254_4 := (HB.out.cell (lD w _ hx254_4)).trans hx254_4
        replace p254 := eq_true p254
        replace q254 := eq_true q254
        refine start_ (n := 11) (S := fun w' => w'.cell? (ad253.add (((ji3)).toNat * 5)) = some (.int .i64 ((rd_T27 l0 (ji3)).f0)) ∧ w'.cell? ⟨(ad253.add (((ji3)).toNat * 5)).block, (ad253.add (((ji3)).toNat * 5)).off + 1, none⟩ = some (.int .i64 ((rd_T27 l0 (ji3)).f1)) ∧ w'.cell? ⟨(ad253.add (((ji3)).toNat * 5)).block, (ad253.add (((ji3)).toNat * 5)).off + 2, none⟩ = some (.int .i64 ((rd_T27 l0 (ji3)).f2)) ∧ w'.cell? ⟨(ad253.add (((ji3)).toNat * 5)).block, (ad253.add (((ji3)).toNat * 5)).off + 3, none⟩ = some (.int .i64 ((rd_T27 l0 (ji3)).f3)) ∧ w'.cell? ⟨(ad253.add (((ji3)).toNat * 5)).block, (ad253.add (((ji3)).toNat * 5)).off + 4, none⟩ = some (.int .i64 ((rd_T27 l0 (ji3)).f4)) ∧ w'.cell? (ad253.add ((x3_1).toNat * 5)) = some (.int .i64 ((rd_T27 l0 x3_1).f0)) ∧ w'.cell? ⟨(ad253.add ((x3_1).toNat * 5)).block, (ad253.add ((x3_1).toNat * 5)).off + 1, none⟩ = some (.int .i64 ((rd_T27 l0 x3_1).f1)) ∧ w'.cell? ⟨(ad253.add ((x3_1).toNat * 5)).block, (ad253.add ((x3_1).toNat * 5)).off + 2, none⟩ = some (.int .i64 ((rd_T27 l0 x3_1).f2)) ∧ w'.cell? ⟨(ad253.add ((x3_1).toNat * 5)).block, (ad253.add ((x3_1).toNat * 5)).off + 3, none⟩ = some (.int .i64 ((rd_T27 l0 x3_1).f3)) ∧ w'.cell? ⟨(ad253.add ((x3_1).toNat * 5)).block, (ad253.add ((x3_1).toNat * 5)).off + 4, none⟩ = some (.int .i64 ((rd_T27 l0 x3_1).f4))) (ds := []) #[false, false, false, false, false, false, false, false, false, false, false] (by kernel_rfl) rfl rfl ⟨((HB.out.cell (lD w _ hw253_0)).trans hw253_0), ((HB.out.cell (lD w _ hw253_1)).trans hw253_1), ((HB.out.cell (lD w _ hw253_2)).trans hw253_2), ((HB.out.cell (lD w _ hw253_3)).trans hw253_3), ((HB.out.cell (lD w _ hw253_4)).trans hw253_4), ((HB.out.cell (lD w _ hw254_0)).trans hw254_0), ((HB.out.cell (lD w _ hw254_1)).trans hw254_1), ((HB.out.cell (lD w _ hw254_2)).trans hw254_2), ((HB.out.cell (lD w _ hw254_3)).trans hw254_3), ((HB.out.cell (lD w _ hw254_4)).trans hw254_4)⟩ (fun hHeld => ?_); refine with_tabW spec_l4Rises.tab4 spec_l4Rises.bits4 (fun HT_ HW_ => ?_)
        generalize wr.drew = w11 at HB hx253_0 hx253_1 hx253_2 hx253_3 hx253_4 hx254_0 hx254_1 hx254_2 hx254_3 hx254_4 hHeld ⊢
        refine aX (i := 0) (N := some 10) (v := ?_) (a' := ?_) #[true, false, false, false, false, false, false, false, false, false, false] rfl rfl (aW HT_.out (by kernel_rfl)) (fun _ _ _ h => h) (Or.inl ⟨by rfl, ?_⟩) ?_ ?_
        rotate_left
        ·intro w'
         go_simp
         with_reducible rfl
        rotate_left
        ·simp only [Act.put, lA, lB, lC, aT, aU]
         rfl
        refine aX (i := 1) (N := some 11) (v := ?_) (a' := ?_) #[true, true, false, false, false, false, false, false, false, false, false] rfl rfl (aW HT_.out (by kernel_rfl)) (fun _ _ _ h => h) (Or.inl ⟨by rfl, ?_⟩) ?_ ?_
        rotate_left
        ·intro w'
         go_simp
         with_reducible rfl
        rotate_left
        ·simp only [Act.put, lA, lB, lC, aT, aU]
         rfl
        refine aX (i := 2) (N := some 12) (v := ?_) (a' := ?_) #[true, true, true, false, false, false, false, false, false, false, false] rfl rfl (aW HT_.out (by kernel_rfl)) (fun _ _ _ h => h) (Or.inl ⟨by rfl, ?_⟩) ?_ ?_
        rotate_left
        ·intro w'
         go_simp
         with_reducible rfl
        rotate_left
        ·simp only [Act.put, lA, lB, lC, aT, aU]
         rfl
        refine aX (i := 3) (N := some 13) (v := ?_) (a' := ?_) #[true, true, true, true, false, false, false, false, false, false, false] rfl rfl (aW HT_.out (by kernel_rfl)) (fun _ _ _ h => h) (Or.inl ⟨by rfl, ?_⟩) ?_ ?_
        rotate_left
        ·intro w'
         go_simp
         with_reducible rfl
        rotate_left
        ·simp only [Act.put, lA, lB, lC, aT, aU]
         rfl
        refine aX (i := 5) (N := some 15) (v := ?_) (a' := ?_) #[true, true, true, true, false, true, false, false, false, false, false] rfl rfl (aW HT_.out (by kernel_rfl)) (fun _ _ _ h => h) (Or.inl ⟨by rfl, ?_⟩) ?_ ?_
        rotate_left
        ·intro w'
         go_simp
         with_reducible rfl
        rotate_left
        ·simp only [Act.put, lA, lB, lC, aT, aU]
         rfl
        refine aX (i := 6) (N := some 16) (v := ?_) (a' := ?_) #[true, true, true, true, false, true, true, false, false, false, false] rfl rfl (aW HT_.out (by kernel_rfl)) (fun _ _ _ h => h) (Or.inl ⟨by rfl, ?_⟩) ?_ ?_
        rotate_left
        ·intro w'
         go_simp
         with_reducible rfl
        rotate_left
        ·simp only [Act.put, lA, lB, lC, aT, aU]
         rfl
        refine aX (i := 7) (N := some 17) (v := ?_) (a' := ?_) #[true, true, true, true, false, true, true, true, false, false, false] rfl rfl (aW HT_.out (by kernel_rfl)) (fun _ _ _ h => h) (Or.inl ⟨by rfl, ?_⟩) ?_ ?_
        rotate_left
        ·intro w'
         go_simp
         with_reducible rfl
        rotate_left
        ·simp only [Act.put, lA, lB, lC, aT, aU]
         rfl
        refine take_ (i := 4) (N := some 14) (v := ?_) (a' := ?_) #[true, true, true, true, true, true, true, true, false, false, false] rfl rfl (bP HT_.out HW_.out (by kernel_rfl)) (fun _ _ _ h => h) (Or.inl ⟨by rfl, ?_⟩) hHeld ?_ ?_
        rotate_left
        ·rintro w' ⟨s0, s1, s2, s3, s4, s5, s6, s7, s8, s9⟩
         go_simp
         with_reducible rfl
        rotate_left
        ·simp only [Act.put, lA, lB, lC, aT, aU]
         rfl
        refine take_ (i := 8) (N := some 18) (v := ?_) (a' := ?_) #[true, true, true, true, true, true, true, true, true, false, false] rfl rfl (bP HT_.out HW_.out (by kernel_rfl)) (fun _ _ _ h => h) (Or.inl ⟨by rfl, ?_⟩) hHeld ?_ ?_
        rotate_left
        ·rintro w' ⟨s0, s1, s2, s3, s4, s5, s6, s7, s8, s9⟩
         go_simp
         with_reducible rfl
        rotate_left
        ·simp only [Act.put, lA, lB, lC, aT, aU]
         rfl
        refine one_ (i := 9) (N := some 19) #[true, true, true, true, true, true, true, true, true, true, false] rfl rfl (one_of HT_.out (by kernel_rfl)) (by decide) (fun K hK => ?_)
        refine goes_ Try.func93 (by kernel_rfl) rfl #[.agg #[.int .i64 ((rd_T27 l0 (ji3)).f0), .int .i64 ((rd_T27 l0 (ji3)).f1), .int .i64 ((rd_T27 l0 (ji3)).f2), .int .i64 ((rd_T27 l0 (ji3)).f3), .int .i64 ((rd_T27 l0 (ji3)).f4)], .agg #[.int .i64 ((rd_T27 l0 x3_1).f0), .int .i64 ((rd_T27 l0 x3_1).f1), .int .i64 ((rd_T27 l0 x3_1).f2), .int .i64 ((rd_T27 l0 x3_1).f3), .int .i64 ((rd_T27 l0 x3_1).f4)]] (by rfl) rfl rfl (by (try simp only [List.map_toArray, List.map_cons, List.map_nil]); first | done | (simp only [hji3]; rfl) | rfl | (simp only [List.length_drop, List.length_take]; rfl)) ?_
        with_reducible refine (spec_LessKey.calls ((rd_T27 l0 (ji3)).f0) ((rd_T27 l0 (ji3)).f1) ((rd_T27 l0 (ji3)).f2) ((rd_T27 l0 (ji3)).f3) ((rd_T27 l0 (ji3)).f4) ((rd_T27 l0 x3_1).f0) ((rd_T27 l0 x3_1).f1) ((rd_T27 l0 x3_1).f2) ((rd_T27 l0 x3_1).f3) ((rd_T27 l0 x3_1).f4) false _ A7.out).mono ?_
        rintro e w12 ⟨rfl, hb⟩
        refine ⟨_, rfl, ?_⟩
        have n0_ := aA.mk (aV (by repeat (first | (with_reducible first | exact HB.out | apply aE | apply aC | apply aD) | exact HB.out)) hb)
        clear HB
        have HB := n0_
        clear n0_
        (try clear hb)
        (try clear hb2)
        (try clear hk)
        (try clear hi)
        refine hK.out _ _ ⟨((HB.out.cell (lD w _ hw253_0)).trans hw253_0), ((HB.out.cell (lD w _ hw253_1)).trans hw253_1), ((HB.out.cell (lD w _ hw253_2)).trans hw253_2), ((HB.out.cell (lD w _ hw253_3)).trans hw253_3), ((HB.out.cell (lD w _ hw253_4)).trans hw253_4), ((HB.out.cell (lD w _ hw254_0)).trans hw254_0), ((HB.out.cell (lD w _ hw254_1)).trans hw254_1), ((HB.out.cell (lD w _ hw254_2)).trans hw254_2), ((HB.out.cell (lD w _ hw254_3)).trans hw254_3), ((HB.out.cell (lD w _ hw254_4)).trans hw254_4)⟩ (fun hHeld => ?_)
        clear hK K
        refine norm_ (a' := ?_) ?_ ?_
        rotate_left
        ·show Act.put _ (some 19) _ = _
         simp only [Act.put, lA, lB, lC, aT, aU]
         rfl
        refine aX (i := 10) (N := some 20) (v := ?_) (a' := ?_) #[true, true, true, true, true, true, true, true, true, true, true] rfl rfl (aW HT_.out (by kernel_rfl)) (fun _ _ _ h => h) (Or.inl ⟨by rfl, ?_⟩) ?_ ?_
        rotate_left
        ·intro w'
         go_simp
         with_reducible rfl
        rotate_left
        ·simp only [Act.put, lA, lB, lC, aT, aU]
         rfl
        refine done_ (done_of HT_.out (by kernel_rfl)) ?_
        try go_wp2
        go_ret
        exact ⟨by first | rfl | (simp [errW_none, errW_some] <;> rfl) | (simp only [← hji3]; first | rfl | (simp [errW_none, errW_some] <;> rfl)) | (simp [*, errW_none, errW_some] <;> rfl), by repeat (first | (with_reducible first | exact HB.out | apply aE | apply aC | apply aD) | exact HB.out)⟩
      ·rw [if_neg c6] at H
       exact absurd H (by simp)
     ·rw [if_neg c5] at H
      exact absurd H (by simp)
    ·rw [if_neg c4] at H
     exact absurd H (by simp)
   ·rw [if_neg c2] at H
    have c2b0 : decide (x3_1 < (l0.length : Int)) = false := decide_eq_false c2
    clear c2
    obtain rfl := Option.some.inj H
    go_wp2
    go_ret
    exact ⟨by first | rfl | (simp [errW_none, errW_some] <;> rfl) | (simp [*, errW_none, errW_some] <;> rfl), by repeat (first | (with_reducible first | exact HB.out | apply aE | apply aC | apply aD) | exact HB.out)⟩
def spec_SetOk.l0 : Nat → List (S27) → Int → Option (Bool)
 | 0, _, _ => none
 | k + 1, x0, x3 => if x3 < (x0.length : Int) then (if 0 ≤ x3 then ((spec_KeyOk.f k ((rd_T27 x0 x3).f0) ((rd_T27 x0 x3).f1) ((rd_T27 x0 x3).f2) ((rd_T27 x0 x3).f3) ((rd_T27 x0 x3).f4)).bind fun t257 => (if t257 = true then (spec_SetOk.l0 k x0 (wrap64 (x3 + 1))) else (some false))) else (none)) else ((spec_l4Rises.f k x0).bind fun t258 => (if t258 = true then (some (decide ((x0.length : Int) ≤ 60))) else (some false)))
def spec_SetOk.f (k : Nat) (l0 : List (S27)) : Option (Bool) := spec_SetOk.l0 k l0 0
set_option maxHeartbeats 8000000 in
set_option maxRecDepth 100000 in
theorem spec_SetOk.calls (k : Nat) (A0 : Option Addr) (c0 : Nat) (l0 : List (S27)) (r : Bool) (w : World) (hr0 : Kd.C k27 w A0 l0.length l0) (hc0 : l0.length ≤ c0) (h : spec_SetOk.f k l0 = some r) :
  Calls Try.prog 61 #[.slice A0 l0.length c0] w fun e w' => e = .returned (.bool r) ∧ Below w.heap.size w w' := by
 have hu27 := Try.underlying27
 have HR0 := aA.mk hr0
 have HC0 := aA.mk hc0
 clear hr0 hc0
 have HB := aA.mk (Below.refl w.heap.size w)
 have H : (spec_SetOk.l0 k l0 0) = some r := h
 clear h
 have H' := aA.mk H
 clear H
 go_enter Try.func61, Try.ntmps61
 go_wp2
 go_loopg [3] k (fun kq v3 w' => ∃ (x3_1 : Int), v3 = .int .i64 x3_1 ∧ aA (spec_SetOk.l0 kq l0 x3_1 = some r) ∧ aA (kq ≤ k) ∧ aA (Below w.heap.size w w'))
 case atStart => exact ⟨(0), (by first | rfl | (simp; done) | (simp [*]; done)), H', ⟨Nat.le_refl _⟩, ⟨by repeat (first | (with_reducible first | exact HB.out | apply aE | apply aC | apply aD) | exact HB.out)⟩⟩
 case round =>
  clear H'
  obtain ⟨x3_1, rfl, HA, HK1, HB⟩ := hrel
  cases gk with
  | zero => exact absurd HA.out (by simp [spec_SetOk.l0])
  | succ k1 =>
   have H := HA.out
   clear HA
   simp only [spec_SetOk.l0] at H
   by_cases c2 : x3_1 < (l0.length : Int)
   ·rw [if_pos c2] at H
    have c2b0 : decide (x3_1 < (l0.length : Int)) = true := decide_eq_true c2
    clear c2
    by_cases c3 : 0 ≤ x3_1
    ·rw [if_pos c3] at H
     have c3b0 : decide (0 ≤ x3_1) = true := decide_eq_true c3
     clear c3
     replace H := lF H
     obtain ⟨t257, A40, H⟩ := H
     replace H : (if t257 = true then (spec_SetOk.l0 k1 l0 (wrap64 (x3_1 + 1))) else (some false)) = some r := H
     have A4 := aA.mk A40
     clear A40
     by_cases c5 : t257 = true
     ·subst c5
      have H1 : (spec_SetOk.l0 k1 l0 (wrap64 (x3_1 + 1))) = some r := by rw [if_pos rfl] at H; exact H
      clear H
      have H := H1
      clear H1
      have H' := aA.mk H
      clear H
      have p256 : 0 ≤ (x3_1 : Int) := lE (by first | (with_reducible assumption) | assumption)
      have q256 : x3_1 < (l0.length : Int) := lE (by first | (with_reducible assumption) | assumption)
      obtain ⟨ad256, e256, hx256_0, hx256_1, hx256_2, hx256_3, hx256_4⟩ := at_T27 HR0.out x3_1 p256 q256
      cases e256
      replace hx256_0 := (HB.out.cell (lD w _ hx256_0)).trans hx256_0
      replace hx256_1 := (HB.out.cell (lD w _ hx256_1)).trans hx256_1
      replace hx256_2 := (HB.out.cell (lD w _ hx256_2)).trans hx256_2
      replace hx256_3 := (HB.out.cell (lD w _ hx256_3)).trans hx256_3
      replace hx256_4 := (HB.out.cell (lD w _ hx256_4)).trans hx256_4
      replace p256 := eq_true p256
      replace q256 := eq_true q256
      go_wp2_with (first | ((with_reducible refine bC (f := 89) rfl ?_); refine bL (some 14) rfl rfl Try.func89 (by kernel_rfl) rfl #[.agg #[.int .i64 ((rd_T27 l0 x3_1).f0), .int .i64 ((rd_T27 l0 x3_1).f1), .int .i64 ((rd_T27 l0 x3_1).f2), .int .i64 ((rd_T27 l0 x3_1).f3), .int .i64 ((rd_T27 l0 x3_1).f4)]] rfl (by (try simp only [List.map_toArray, List.map_cons, List.map_nil]); first | done | rfl | (simp only [List.length_drop, List.length_take]; rfl)) ?_; (with_reducible refine (spec_KeyOk.calls k1 ((rd_T27 l0 x3_1).f0) ((rd_T27 l0 x3_1).f1) ((rd_T27 l0 x3_1).f2) ((rd_T27 l0 x3_1).f3) ((rd_T27 l0 x3_1).f4) true _ A4.out).mono ?_); rintro e w6 ⟨rfl, hb⟩; refine ⟨_, rfl, ?_⟩; have n0_ := aA.mk (aV (by repeat (first | (with_reducible first | exact HB.out | apply aE | apply aC | apply aD) | exact HB.out)) hb); clear HB; have HB := n0_; clear n0_; (try clear hb)))
      go_roundg k1
      case measure => have := HK1.out; omega
      case rel => exact ⟨(wrap64 (x3_1 + 1)), (by first | rfl | (simp; done) | (simp [*]; done)), H', ⟨by have := HK1.out; omega⟩, ⟨by repeat (first | (with_reducible first | exact HB.out | apply aE | apply aC | apply aD) | exact HB.out)⟩⟩
     ·replace c5 := Bool.eq_false_iff.mpr c5
      subst c5
      have H1 : (some false) = some r := by rw [if_neg (show ¬ (false = true) by decide)] at H; exact H
      clear H
      have H := H1
      clear H1
      obtain rfl := Option.some.inj H
      have p256 : 0 ≤ (x3_1 : Int) := lE (by first | (with_reducible assumption) | assumption)
      have q256 : x3_1 < (l0.length : Int) := lE (by first | (with_reducible assumption) | assumption)
      obtain ⟨ad256, e256, hx256_0, hx256_1, hx256_2, hx256_3, hx256_4⟩ := at_T27 HR0.out x3_1 p256 q256
      cases e256
      replace hx256_0 := (HB.out.cell (lD w _ hx256_0)).trans hx256_0
      replace hx256_1 := (HB.out.cell (lD w _ hx256_1)).trans hx256_1
      replace hx256_2 := (HB.out.cell (lD w _ hx256_2)).trans hx256_2
      replace hx256_3 := (HB.out.cell (lD w _ hx256_3)).trans hx256_3
      replace hx256_4 := (HB.out.cell (lD w _ hx256_4)).trans hx256_4
      replace p256 := eq_true p256
      replace q256 := eq_true q256
      go_wp2_with (first | ((with_reducible refine bC (f := 89) rfl ?_); refine bL (some 14) rfl rfl Try.func89 (by kernel_rfl) rfl #[.agg #[.int .i64 ((rd_T27 l0 x3_1).f0), .int .i64 ((rd_T27 l0 x3_1).f1), .int .i64 ((rd_T27 l0 x3_1).f2), .int .i64 ((rd_T27 l0 x3_1).f3), .int .i64 ((rd_T27 l0 x3_1).f4)]] rfl (by (try simp only [List.map_toArray, List.map_cons, List.map_nil]); first | done | rfl | (simp only [List.length_drop, List.length_take]; rfl)) ?_; (with_reducible refine (spec_KeyOk.calls k1 ((rd_T27 l0 x3_1).f0) ((rd_T27 l0 x3_1).f1) ((rd_T27 l0 x3_1).f2) ((rd_T27 l0 x3_1).f3) ((rd_T27 l0 x3_1).f4) false _ A4.out).mono ?_); rintro e w7 ⟨rfl, hb⟩; refine ⟨_, rfl, ?_⟩; have n0_ := aA.mk (aV (by repeat (first | (with_reducible first | exact HB.out | apply aE | apply aC | apply aD) | exact HB.out)) hb); clear HB; have HB := n0_; clear n0_; (try clear hb)))
      go_ret
      exact ⟨by first | rfl | (simp [errW_none, errW_some] <;> rfl) | (simp [*, errW_none, errW_some] <;> rfl), by repeat (first | (with_reducible first | exact HB.out | apply aE | apply aC | apply aD) | exact HB.out)⟩
    ·rw [if_neg c3] at H
     exact absurd H (by simp)
   ·rw [if_neg c2] at H
    have c2b0 : decide (x3_1 < (l0.length : Int)) = false := decide_eq_false c2
    clear c2
    replace H := lF H
    obtain ⟨t258, A80, H⟩ := H
    replace H : (if t258 = true then (some (decide ((l0.length : Int) ≤ 60))) else (some false)) = some r := H
    have A8 := aA.mk A80
    clear A80
    by_cases c9 : t258 = true
    ·subst c9
     have H1 : (some (decide ((l0.length : Int) ≤ 60))) = some r := by rw [if_pos rfl] at H; exact H
     clear H
     have H := H1
     clear H1
     obtain rfl := Option.some.inj H
     go_wp2_with (first | ((with_reducible refine bC (f := 90) rfl ?_); refine bL (some 17) rfl rfl Try.func90 (by kernel_rfl) rfl #[.slice A0 l0.length c0] rfl (by (try simp only [List.map_toArray, List.map_cons, List.map_nil]); first | done | rfl | (simp only [List.length_drop, List.length_take]; rfl)) ?_; (with_reducible refine (spec_l4Rises.calls k1 _ _ l0 true _ ?side1 ?side2 A8.out).mono ?_); (case side1 => repeat (first | exact (Kd.bJ HR0.out HB.out) | (with_reducible refine Kd.bD ?_ _) | (with_reducible refine Kd.bE ?_ _) | (with_reducible refine Kd.bK ?_))); (case side2 => exact HC0.out); rintro e w10 ⟨rfl, hb⟩; refine ⟨_, rfl, ?_⟩; have n0_ := aA.mk (aV (by repeat (first | (with_reducible first | exact HB.out | apply aE | apply aC | apply aD) | exact HB.out)) hb); clear HB; have HB := n0_; clear n0_; (try clear hb)))
     go_ret
     exact ⟨by first | rfl | (simp [errW_none, errW_some] <;> rfl) | (simp [*, errW_none, errW_some] <;> rfl), by repeat (first | (with_reducible first | exact HB.out | apply aE | apply aC | apply aD) | exact HB.out)⟩
    ·replace c9 := Bool.eq_false_iff.mpr c9
     subst c9
     have H1 : (some false) = some r := by rw [if_neg (show ¬ (false = true) by decide)] at H; exact H
     clear H
     have H := H1
     clear H1
     obtain rfl := Option.some.inj H
     go_wp2_with (first | ((with_reducible refine bC (f := 90) rfl ?_); refine bL (some 17) rfl rfl Try.func90 (by kernel_rfl) rfl #[.slice A0 l0.length c0] rfl (by (try simp only [List.map_toArray, List.map_cons, List.map_nil]); first | done | rfl | (simp only [List.length_drop, List.length_take]; rfl)) ?_; (with_reducible refine (spec_l4Rises.calls k1 _ _ l0 false _ ?side1 ?side2 A8.out).mono ?_); (case side1 => repeat (first | exact (Kd.bJ HR0.out HB.out) | (with_reducible refine Kd.bD ?_ _) | (with_reducible refine Kd.bE ?_ _) | (with_reducible refine Kd.bK ?_))); (case side2 => exact HC0.out); rintro e w11 ⟨rfl, hb⟩; refine ⟨_, rfl, ?_⟩; have n0_ := aA.mk (aV (by repeat (first | (with_reducible first | exact HB.out | apply aE | apply aC | apply aD) | exact HB.out)) hb); clear HB; have HB := n0_; clear n0_; (try clear hb)))
     go_ret
     exact ⟨by first | rfl | (simp [errW_none, errW_some] <;> rfl) | (simp [*, errW_none, errW_some] <;> rfl), by repeat (first | (with_reducible first | exact HB.out | apply aE | apply aC | apply aD) | exact HB.out)⟩
def spec_l5Count.l0 : Nat → Int → Int → List (List (S27)) → Option (Int)
 | 0, _, _, _ => none
 | k + 1, x3, x4, x260000 => if x4 < (x260000.length : Int) then (if 0 ≤ x4 then (spec_l5Count.l0 k (wrap64 (x3 + ((rd_L2 x260000 x4).length : Int))) (wrap64 (x4 + 1)) x260000) else (none)) else (some x3)
def spec_l5Count.f (k : Nat) (l0_0 : List (List (S27))) : Option (Int) := spec_l5Count.l0 k 0 0 l0_0
set_option maxHeartbeats 8000000 in
set_option maxRecDepth 100000 in
theorem spec_l5Count.calls (k : Nat) (A0_0 : Option Addr) (c0_0 : Nat) (l0_0 : List (List (S27))) (r : Int) (w : World) (hr0_0 : Kd.C (Kd.slice 27 k27) w A0_0 l0_0.length l0_0) (hc0_0 : l0_0.length ≤ c0_0) (h : spec_l5Count.f k l0_0 = some r) :
  Calls Try.prog 62 #[.agg #[.slice A0_0 l0_0.length c0_0]] w fun e w' => e = .returned (.int .i64 r) ∧ Below w.heap.size w w' := by
 have hu32 := Try.underlying32
 have HR0_0 := aA.mk hr0_0
 have HC0_0 := aA.mk hc0_0
 clear hr0_0 hc0_0
 have HB := aA.mk (Below.refl w.heap.size w)
 have H : (spec_l5Count.l0 k 0 0 l0_0) = some r := h
 clear h
 have H' := aA.mk H
 clear H
 go_enter Try.func62, Try.ntmps62
 go_wp2_with (first | ((with_reducible refine bF (N := 1) rfl ?_); refine bH ?hg (N := 1) ?hd (cs := #[.slice A0_0 l0_0.length c0_0]) (t := 32) ?hr ?_; (case hd => rfl); (case hg => rfl); (case hr => first | (go_simp; done) | (go_simp; rfl)); intro gb259 hg w2 hbox hb; have n0_ := aA.mk (aV (by repeat (first | (with_reducible first | exact HB.out | apply aE | apply aC | apply aD) | exact HB.out)) hb); have n1_ := aA.mk (hbox); have n2_ := aA.mk ((by rw [hg]; exact (aQ (by repeat (first | (with_reducible first | exact HB.out | apply aE | apply aC | apply aD) | exact HB.out))) : w.heap.size ≤ gb259)); have n3_ := aA.mk ((by rw [hg]; exact (aQ (by repeat (first | (with_reducible first | exact HB.out | apply aE | apply aC | apply aD) | exact HB.out))) : w.heap.size ≤ gb259)); clear HB; have HB := n0_; have BK259 := n1_; have GW259 := n2_; have GE259 := n3_; clear n0_ n1_ n2_ n3_; clear hb hbox hg))
 go_loopg [3, 4] k (fun kq v3 v4 w' => ∃ (x3_1 : Int) (x4_1 : Int), v3 = .int .i64 x3_1 ∧ v4 = .int .i64 x4_1 ∧ aA (spec_l5Count.l0 kq x3_1 x4_1 l0_0 = some r) ∧ aA (kq ≤ k) ∧ aA (w'.heap[gb259]? = some (.cells #[(.slice A0_0 l0_0.length c0_0)] 32 (0, 0))) ∧ aA (Below w.heap.size w w'))
 case atStart => exact ⟨(0), (0), (by first | rfl | (simp; done) | (simp [*]; done)), (by first | rfl | (simp; done) | (simp [*]; done)), H', ⟨Nat.le_refl _⟩, ⟨by (with_reducible repeat (first | refine aK ?_ _ | refine aN ?_ | refine aM ?_ _)); exact BK259.out⟩, ⟨by repeat (first | (with_reducible first | exact HB.out | apply aE | apply aC | apply aD | refine aJ ?_ GE259.out) | exact HB.out)⟩⟩
 case round =>
  clear H'
  try clear p2
  obtain ⟨x3_1, x4_1, rfl, rfl, HA, HK1, BK259, HB⟩ := hrel
  cases gk with
  | zero => exact absurd HA.out (by simp [spec_l5Count.l0])
  | succ k1 =>
   have H := HA.out
   clear HA
   simp only [spec_l5Count.l0] at H
   by_cases c3 : x4_1 < (l0_0.length : Int)
   ·rw [if_pos c3] at H
    have c3b0 : decide (x4_1 < (l0_0.length : Int)) = true := decide_eq_true c3
    clear c3
    by_cases c4 : 0 ≤ x4_1
    ·rw [if_pos c4] at H
     have c4b0 : decide (0 ≤ x4_1) = true := decide_eq_true c4
     clear c4
     have H' := aA.mk H
     clear H
     have hcz5_0 : wr.cell? ⟨gb259, 0, none⟩ = some (.slice A0_0 l0_0.length c0_0) := (aG BK259.out 0).trans rfl
     have hfz5_0 := aH BK259.out 0
     have p260 : 0 ≤ (x4_1 : Int) := lE (by first | (with_reducible assumption) | assumption)
     have q260 : x4_1 < (l0_0.length : Int) := lE (by first | (with_reducible assumption) | assumption)
     obtain ⟨ad260, A260_0, c260_0, e260, hx260_0, hl260_0, hi260_0⟩ := at_L2 HR0_0.out x4_1 p260 q260
     cases e260
     replace hx260_0 := (HB.out.cell (lD w _ hx260_0)).trans hx260_0
     have HR260_0 := aA.mk hi260_0
     have HC260_0 := aA.mk hl260_0
     clear hi260_0 hl260_0
     replace p260 := eq_true p260
     replace q260 := eq_true q260
     go_wp2
     go_roundg k1
     case measure => have := HK1.out; omega
     case rel => exact ⟨(wrap64 (x3_1 + ((rd_L2 l0_0 x4_1).length : Int))), (wrap64 (x4_1 + 1)), (by first | rfl | (simp; done) | (simp [*]; done)), (by first | rfl | (simp; done) | (simp [*]; done)), H', ⟨by have := HK1.out; omega⟩, ⟨by (with_reducible repeat (first | refine aK ?_ _ | refine aN ?_ | refine aM ?_ _)); exact BK259.out⟩, ⟨by repeat (first | (with_reducible first | exact HB.out | apply aE | apply aC | apply aD | refine aJ ?_ GE259.out) | exact HB.out)⟩⟩
    ·rw [if_neg c4] at H
     exact absurd H (by simp)
   ·rw [if_neg c3] at H
    have c3b0 : decide (x4_1 < (l0_0.length : Int)) = false := decide_eq_false c3
    clear c3
    obtain rfl := Option.some.inj H
    have hcz6_0 : wr.cell? ⟨gb259, 0, none⟩ = some (.slice A0_0 l0_0.length c0_0) := (aG BK259.out 0).trans rfl
    have hfz6_0 := aH BK259.out 0
    go_wp2
    go_ret
    exact ⟨by first | rfl | (simp [errW_none, errW_some] <;> rfl) | (simp [*, errW_none, errW_some] <;> rfl), by repeat (first | (with_reducible first | exact HB.out | apply aE | apply aC | apply aD | refine aJ ?_ GE259.out) | exact HB.out)⟩
def spec_NodeOk.l0 : Nat → Int → List (List (S27)) → Option (Bool)
 | 0, _, _ => none
 | k + 1, x3, x262000 => if x3 < (x262000.length : Int) then (if 0 ≤ x3 then ((spec_SetOk.f k (rd_L2 x262000 x3)).bind fun t263 => (if t263 = true then (if ((rd_L2 x262000 x3).length : Int) = 0 then (some false) else (spec_NodeOk.l0 k (wrap64 (x3 + 1)) x262000)) else (some false))) else (none)) else (if (x262000.length : Int) ≤ 3 then ((spec_l5Count.f k x262000).bind fun t265 => (some (decide (t265 ≤ 8)))) else (some false))
def spec_NodeOk.f (k : Nat) (l0_0 : List (List (S27))) : Option (Bool) := spec_NodeOk.l0 k 0 l0_0
set_option maxHeartbeats 8000000 in
set_option maxRecDepth 100000 in
theorem spec_NodeOk.calls (k : Nat) (A0_0 : Option Addr) (c0_0 : Nat) (l0_0 : List (List (S27))) (r : Bool) (w : World) (hr0_0 : Kd.C (Kd.slice 27 k27) w A0_0 l0_0.length l0_0) (hc0_0 : l0_0.length ≤ c0_0) (h : spec_NodeOk.f k l0_0 = some r) :
  Calls Try.prog 28 #[.agg #[.slice A0_0 l0_0.length c0_0]] w fun e w' => e = .returned (.bool r) ∧ Below w.heap.size w w' := by
 have hu32 := Try.underlying32
 have HR0_0 := aA.mk hr0_0
 have HC0_0 := aA.mk hc0_0
 clear hr0_0 hc0_0
 have HB := aA.mk (Below.refl w.heap.size w)
 have H : (spec_NodeOk.l0 k 0 l0_0) = some r := h
 clear h
 have H' := aA.mk H
 clear H
 go_enter Try.func28, Try.ntmps28
 go_wp2_with (first | ((with_reducible refine bF (N := 1) rfl ?_); (try (refine gate_guard (by rfl) ?_; dsimp only)); refine bH ?hg (N := 1) ?hd (cs := #[.slice A0_0 l0_0.length c0_0]) (t := 32) ?hr ?_; (case hd => rfl); (case hg => rfl); (case hr => first | (go_simp; done) | (go_simp; rfl)); intro gb261 hg w2 hbox hb; have n0_ := aA.mk (aV (by repeat (first | (with_reducible first | exact HB.out | apply aE | apply aC | apply aD) | exact HB.out)) hb); have n1_ := aA.mk (hbox); have n2_ := aA.mk ((by rw [hg]; exact (aQ (by repeat (first | (with_reducible first | exact HB.out | apply aE | apply aC | apply aD) | exact HB.out))) : w.heap.size ≤ gb261)); have n3_ := aA.mk ((by rw [hg]; exact (aQ (by repeat (first | (with_reducible first | exact HB.out | apply aE | apply aC | apply aD) | exact HB.out))) : w.heap.size ≤ gb261)); clear HB; have HB := n0_; have BK261 := n1_; have GW261 := n2_; have GE261 := n3_; clear n0_ n1_ n2_ n3_; clear hb hbox hg))
 go_loopg [3] k (fun kq v3 w' => ∃ (x3_1 : Int), v3 = .int .i64 x3_1 ∧ aA (spec_NodeOk.l0 kq x3_1 l0_0 = some r) ∧ aA (kq ≤ k) ∧ aA (w'.heap[gb261]? = some (.cells #[(.slice A0_0 l0_0.length c0_0)] 32 (0, 0))) ∧ aA (Below w.heap.size w w'))
 case atStart => exact ⟨(0), (by first | rfl | (simp; done) | (simp [*]; done)), H', ⟨Nat.le_refl _⟩, ⟨by (with_reducible repeat (first | refine aK ?_ _ | refine aN ?_ | refine aM ?_ _)); exact BK261.out⟩, ⟨by repeat (first | (with_reducible first | exact HB.out | apply aE | apply aC | apply aD | refine aJ ?_ GE261.out) | exact HB.out)⟩⟩
 case round =>
  clear H'
  try clear c2
  try clear p2
  obtain ⟨x3_1, rfl, HA, HK1, BK261, HB⟩ := hrel
  cases gk with
  | zero => exact absurd HA.out (by simp [spec_NodeOk.l0])
  | succ k1 =>
   have H := HA.out
   clear HA
   simp only [spec_NodeOk.l0] at H
   by_cases c3 : x3_1 < (l0_0.length : Int)
   ·rw [if_pos c3] at H
    have c3b0 : decide (x3_1 < (l0_0.length : Int)) = true := decide_eq_true c3
    clear c3
    by_cases c4 : 0 ≤ x3_1
    ·rw [if_pos c4] at H
     have c4b0 : decide (0 ≤ x3_1) = true := decide_eq_true c4
     clear c4
     replace H := lF H
     obtain ⟨t263, A50, H⟩ := H
     replace H : (if t263 = true then (if ((rd_L2 l0_0 x3_1).length : Int) = 0 then (some false) else (spec_NodeOk.l0 k1 (wrap64 (x3_1 + 1)) l0_0)) else (some false)) = some r := H
     have A5 := aA.mk A50
     clear A50
     by_cases c6 : t263 = true
     ·subst c6
      have H1 : (if ((rd_L2 l0_0 x3_1).length : Int) = 0 then (some false) else (spec_NodeOk.l0 k1 (wrap64 (x3_1 + 1)) l0_0)) = some r := by rw [if_pos rfl] at H; exact H
      clear H
      have H := H1
      clear H1
      by_cases c7 : ((rd_L2 l0_0 x3_1).length : Int) = 0
      ·rw [if_pos c7] at H
       have c7b0 : (((rd_L2 l0_0 x3_1).length : Int) == 0) = true := beq_iff_eq.mpr c7
       have c7b1 : (((rd_L2 l0_0 x3_1).length : Int) != 0) = false := bne_eq_false_iff_eq.mpr c7
       clear c7
       obtain rfl := Option.some.inj H
       have hcz8_0 : wr.cell? ⟨gb261, 0, none⟩ = some (.slice A0_0 l0_0.length c0_0) := (aG BK261.out 0).trans rfl
       have hfz8_0 := aH BK261.out 0
       have p262 : 0 ≤ (x3_1 : Int) := lE (by first | (with_reducible assumption) | assumption)
       have q262 : x3_1 < (l0_0.length : Int) := lE (by first | (with_reducible assumption) | assumption)
       obtain ⟨ad262, A262_0, c262_0, e262, hx262_0, hl262_0, hi262_0⟩ := at_L2 HR0_0.out x3_1 p262 q262
       cases e262
       replace hx262_0 := (HB.out.cell (lD w _ hx262_0)).trans hx262_0
       have HR262_0 := aA.mk hi262_0
       have HC262_0 := aA.mk hl262_0
       clear hi262_0 hl262_0
       replace p262 := eq_true p262
       replace q262 := eq_true q262
       go_wp2_with (first | ((with_reducible refine bC (f := 61) rfl ?_); refine bL (some 16) rfl rfl Try.func61 (by kernel_rfl) rfl #[.slice A262_0 (rd_L2 l0_0 x3_1).length c262_0] rfl (by (try simp only [List.map_toArray, List.map_cons, List.map_nil]); first | done | rfl | (simp only [List.length_drop, List.length_take]; rfl)) ?_; (with_reducible refine (spec_SetOk.calls k1 _ _ (rd_L2 l0_0 x3_1) true _ ?side1 ?side2 A5.out).mono ?_); (case side1 => repeat (first | exact (Kd.bJ HR262_0.out HB.out) | (with_reducible refine Kd.bD ?_ _) | (with_reducible refine Kd.bE ?_ _) | (with_reducible refine Kd.bK ?_))); (case side2 => exact HC262_0.out); rintro e w9 ⟨rfl, hb⟩; refine ⟨_, rfl, ?_⟩; have n0_ := aA.mk (aY (g := gb261) (o := .cells #[.slice (some ad262) l0_0.length c0_0] 32 (0, 0)) (by (with_reducible repeat (first | refine aK ?_ _ | refine aN ?_ | refine aM ?_ _)); exact BK261.out) hb); have n1_ := aA.mk (aV (by repeat (first | (with_reducible first | exact HB.out | apply aE | apply aC | apply aD | refine aJ ?_ GE261.out) | exact HB.out)) hb); clear BK261; clear HB; have BK261 := n0_; have HB := n1_; clear n0_ n1_; (try clear hb); have hcz10_0 : w9.cell? ⟨gb261, 0, none⟩ = some (.slice (some ad262) l0_0.length c0_0) := (aG BK261.out 0).trans rfl; have hfz10_0 := aH BK261.out 0; have p264 : 0 ≤ (x3_1 : Int) := lE (by first | (with_reducible assumption) | assumption); have q264 : x3_1 < (l0_0.length : Int) := lE (by first | (with_reducible assumption) | assumption); obtain ⟨ad264, A264_0, c264_0, e264, hx264_0, hl264_0, hi264_0⟩ := at_L2 HR0_0.out x3_1 p264 q264; obtain rfl : ad262 = ad264 := (by injection e264); replace hx264_0 := (HB.out.cell (lD w _ hx264_0)).trans hx264_0; have HR264_0 := aA.mk hi264_0; have HC264_0 := aA.mk hl264_0; clear hi264_0 hl264_0; replace p264 := eq_true p264; replace q264 := eq_true q264))
       go_ret
       exact ⟨by first | rfl | (simp [errW_none, errW_some] <;> rfl) | (simp [*, errW_none, errW_some] <;> rfl), by repeat (first | (with_reducible first | exact HB.out | apply aE | apply aC | apply aD | refine aJ ?_ GE261.out) | exact HB.out)⟩
      ·rw [if_neg c7] at H
       have c7b0 : (((rd_L2 l0_0 x3_1).length : Int) == 0) = false := beq_eq_false_iff_ne.mpr c7
       have c7b1 : (((rd_L2 l0_0 x3_1).length : Int) != 0) = true := bne_iff_ne.mpr c7
       have c7b2 : ¬ ((rd_L2 l0_0 x3_1) = []) := fun h_ => c7 (by rw [h_]; rfl)
       have H' := aA.mk H
       clear H
       have hcz11_0 : wr.cell? ⟨gb261, 0, none⟩ = some (.slice A0_0 l0_0.length c0_0) := (aG BK261.out 0).trans rfl
       have hfz11_0 := aH BK261.out 0
       have p262 : 0 ≤ (x3_1 : Int) := lE (by first | (with_reducible assumption) | assumption)
       have q262 : x3_1 < (l0_0.length : Int) := lE (by first | (with_reducible assumption) | assumption)
       obtain ⟨ad262, A262_0, c262_0, e262, hx262_0, hl262_0, hi262_0⟩ := at_L2 HR0_0.out x3_1 p262 q262
       cases e262
       replace hx262_0 := (HB.out.cell (lD w _ hx262_0)).trans hx262_0
       have HR262_0 := aA.mk hi262_0
       have HC262_0 := aA.mk hl262_0
       clear hi262_0 hl262_0
       replace p262 := eq_true p262
       replace q262 := eq_true q262
       go_wp2_with (first | ((with_reducible refine bC (f := 61) rfl ?_); refine bL (some 16) rfl rfl Try.func61 (by kernel_rfl) rfl #[.slice A262_0 (rd_L2 l0_0 x3_1).length c262_0] rfl (by (try simp only [List.map_toArray, List.map_cons, List.map_nil]); first | done | rfl | (simp only [List.length_drop, List.length_take]; rfl)) ?_; (with_reducible refine (spec_SetOk.calls k1 _ _ (rd_L2 l0_0 x3_1) true _ ?side1 ?side2 A5.out).mono ?_); (case side1 => repeat (first | exact (Kd.bJ HR262_0.out HB.out) | (with_reducible refine Kd.bD ?_ _) | (with_reducible refine Kd.bE ?_ _) | (with_reducible refine Kd.bK ?_))); (case side2 => exact HC262_0.out); rintro e w12 ⟨rfl, hb⟩; refine ⟨_, rfl, ?_⟩; have n0_ := aA.mk (aY (g := gb261) (o := .cells #[.slice (some ad262) l0_0.length c0_0] 32 (0, 0)) (by (with_reducible repeat (first | refine aK ?_ _ | refine aN ?_ | refine aM ?_ _)); exact BK261.out) hb); have n1_ := aA.mk (aV (by repeat (first | (with_reducible first | exact HB.out | apply aE | apply aC | apply aD | refine aJ ?_ GE261.out) | exact HB.out)) hb); clear BK261; clear HB; have BK261 := n0_; have HB := n1_; clear n0_ n1_; (try clear hb); have hcz13_0 : w12.cell? ⟨gb261, 0, none⟩ = some (.slice (some ad262) l0_0.length c0_0) := (aG BK261.out 0).trans rfl; have hfz13_0 := aH BK261.out 0; have p264 : 0 ≤ (x3_1 : Int) := lE (by first | (with_reducible assumption) | assumption); have q264 : x3_1 < (l0_0.length : Int) := lE (by first | (with_reducible assumption) | assumption); obtain ⟨ad264, A264_0, c264_0, e264, hx264_0, hl264_0, hi264_0⟩ := at_L2 HR0_0.out x3_1 p264 q264; obtain rfl : ad262 = ad264 := (by injection e264); replace hx264_0 := (HB.out.cell (lD w _ hx264_0)).trans hx264_0; have HR264_0 := aA.mk hi264_0; have HC264_0 := aA.mk hl264_0; clear hi264_0 hl264_0; replace p264 := eq_true p264; replace q264 := eq_true q264))
       go_roundg k1
       case measure => have := HK1.out; omega
       case rel => exact ⟨(wrap64 (x3_1 + 1)), (by first | rfl | (simp; done) | (simp [*]; done)), H', ⟨by have := HK1.out; omega⟩, ⟨by (with_reducible repeat (first | refine aK ?_ _ | refine aN ?_ | refine aM ?_ _)); exact BK261.out⟩, ⟨by repeat (first | (with_reducible first | exact HB.out | apply aE | apply aC | apply aD | refine aJ ?_ GE261.out) | exact HB.out)⟩⟩
     ·replace c6 := Bool.eq_false_iff.mpr c6
      subst c6
      have H1 : (some false) = some r := by rw [if_neg (show ¬ (false = true) by decide)] at H; exact H
      clear H
      have H := H1
      clear H1
      obtain rfl := Option.some.inj H
      have hcz14_0 : wr.cell? ⟨gb261, 0, none⟩ = some (.slice A0_0 l0_0.length c0_0) := (aG BK261.out 0).trans rfl
      have hfz14_0 := aH BK261.out 0
      have p262 : 0 ≤ (x3_1 : Int) := lE (by first | (with_reducible assumption) | assumption)
      have q262 : x3_1 < (l0_0.length : Int) := lE (by first | (with_reducible assumption) | assumption)
      obtain ⟨ad262, A262_0, c262_0, e262, hx262_0, hl262_0, hi262_0⟩ := at_L2 HR0_0.out x3_1 p262 q262
      cases e262
      replace hx262_0 := (HB.out.cell (lD w _ hx262_0)).trans hx262_0
      have HR262_0 := aA.mk hi262_0
      have HC262_0 := aA.mk hl262_0
      clear hi262_0 hl262_0
      replace p262 := eq_true p262
      replace q262 := eq_true q262
      go_wp2_with (first | ((with_reducible refine bC (f := 61) rfl ?_); refine bL (some 16) rfl rfl Try.func61 (by kernel_rfl) rfl #[.slice A262_0 (rd_L2 l0_0 x3_1).length c262_0] rfl (by (try simp only [List.map_toArray, List.map_cons, List.map_nil]); first | done | rfl | (simp only [List.length_drop, List.length_take]; rfl)) ?_; (with_reducible refine (spec_SetOk.calls k1 _ _ (rd_L2 l0_0 x3_1) false _ ?side1 ?side2 A5.out).mono ?_); (case side1 => repeat (first | exact (Kd.bJ HR262_0.out HB.out) | (with_reducible refine Kd.bD ?_ _) | (with_reducible refine Kd.bE ?_ _) | (with_reducible refine Kd.bK ?_))); (case side2 => exact HC262_0.out); rintro e w15 ⟨rfl, hb⟩; refine ⟨_, rfl, ?_⟩; have n0_ := aA.mk (aY (g := gb261) (o := .cells #[.slice (some ad262) l0_0.length c0_0] 32 (0, 0)) (by (with_reducible repeat (first | refine aK ?_ _ | refine aN ?_ | refine aM ?_ _)); exact BK261.out) hb); have n1_ := aA.mk (aV (by repeat (first | (with_reducible first | exact HB.out | apply aE | apply aC | apply aD | refine aJ ?_ GE261.out) | exact HB.out)) hb); clear BK261; clear HB; have BK261 := n0_; have HB := n1_; clear n0_ n1_; (try clear hb)))
      go_ret
      exact ⟨by first | rfl | (simp [errW_none, errW_some] <;> rfl) | (simp [*, errW_none, errW_some] <;> rfl), by repeat (first | (with_reducible first | exact HB.out | apply aE | apply aC | apply aD | refine aJ ?_ GE261.out) | exact HB.out)⟩
    ·rw [if_neg c4] at H
     exact absurd H (by simp)
   ·rw [if_neg c3] at H
    have c3b0 : decide (x3_1 < (l0_0.length : Int)) = false := decide_eq_false c3
    clear c3
    by_cases c16 : (l0_0.length : Int) ≤ 3
    ·rw [if_pos c16] at H
     have c16b0 : decide ((l0_0.length : Int) ≤ 3) = true := decide_eq_true c16
     have c16b1 : decide (l0_0.length ≤ 3) = true := decide_eq_true (by omega)
     clear c16
     replace H := lF H
     obtain ⟨t265, A170, H⟩ := H
     replace H : (some (decide (t265 ≤ 8))) = some r := H
     have A17 := aA.mk A170
     clear A170
     obtain rfl := Option.some.inj H
     have hcz18_0 : wr.cell? ⟨gb261, 0, none⟩ = some (.slice A0_0 l0_0.length c0_0) := (aG BK261.out 0).trans rfl
     have hfz18_0 := aH BK261.out 0
     go_wp2_with (first | (go_at_call 62; (with_reducible refine (spec_l5Count.calls k1 _ _ l0_0 t265 _ ?side1 ?side2 A17.out).mono ?_); (case side1 => repeat (first | exact (Kd.bJ HR0_0.out HB.out) | (with_reducible refine Kd.bD ?_ _) | (with_reducible refine Kd.bE ?_ _) | (with_reducible refine Kd.bK ?_))); (case side2 => exact HC0_0.out); rintro e w19 ⟨rfl, hb⟩; have n0_ := aA.mk (aY (g := gb261) (o := .cells #[.slice A0_0 l0_0.length c0_0] 32 (0, 0)) (by (with_reducible repeat (first | refine aK ?_ _ | refine aN ?_ | refine aM ?_ _)); exact BK261.out) hb); have n1_ := aA.mk (aV (by repeat (first | (with_reducible first | exact HB.out | apply aE | apply aC | apply aD | refine aJ ?_ GE261.out) | exact HB.out)) hb); clear BK261; clear HB; have BK261 := n0_; have HB := n1_; clear n0_ n1_; (try clear hb)))
     go_ret
     exact ⟨by first | rfl | (simp [errW_none, errW_some] <;> rfl) | (simp [*, errW_none, errW_some] <;> rfl), by repeat (first | (with_reducible first | exact HB.out | apply aE | apply aC | apply aD | refine aJ ?_ GE261.out) | exact HB.out)⟩
    ·rw [if_neg c16] at H
     have c16b0 : decide ((l0_0.length : Int) ≤ 3) = false := decide_eq_false c16
     have c16b1 : decide (l0_0.length ≤ 3) = false := decide_eq_false (by omega)
     clear c16
     obtain rfl := Option.some.inj H
     have hcz20_0 : wr.cell? ⟨gb261, 0, none⟩ = some (.slice A0_0 l0_0.length c0_0) := (aG BK261.out 0).trans rfl
     have hfz20_0 := aH BK261.out 0
     go_wp2
     go_ret
     exact ⟨by first | rfl | (simp [errW_none, errW_some] <;> rfl) | (simp [*, errW_none, errW_some] <;> rfl), by repeat (first | (with_reducible first | exact HB.out | apply aE | apply aC | apply aD | refine aJ ?_ GE261.out) | exact HB.out)⟩
def spec_SpotOf.f (a0 : Int) (a1 : Int) : Option (Int) := some (wrap64 ((wrap64 (64 * a0)) + a1))
set_option maxHeartbeats 8000000 in
set_option maxRecDepth 100000 in
theorem spec_SpotOf.calls (a0 : Int) (a1 : Int) (r : Int) (w : World) (h : spec_SpotOf.f a0 a1 = some r) :
  Calls Try.prog 81 #[.int .i64 a0, .int .i64 a1] w fun e w' => e = .returned (.int .i64 r) ∧ Drawn0 w w' := by
 have H : (some (wrap64 ((wrap64 (64 * a0)) + a1))) = some r := h
 clear h
 obtain rfl := Option.some.inj H
 go_enter Try.func81, Try.ntmps81
 go_wp2
 go_ret
 exact ⟨by first | rfl | (simp; done) | (simp [*]; done), by repeat (first | exact Drawn0.refl _ | apply Drawn0.step)⟩
def spec_l6Spot.f (a0_0 : Int) (a0_1 : Int) (a0_2 : Int) (a0_3 : Int) (a0_4 : Int) : Option (Int) := (spec_SpotOf.f a0_0 a0_1).bind fun t267 => (some t267)
set_option maxHeartbeats 8000000 in
set_option maxRecDepth 100000 in
theorem spec_l6Spot.calls (a0_0 : Int) (a0_1 : Int) (a0_2 : Int) (a0_3 : Int) (a0_4 : Int) (r : Int) (w : World) (h : spec_l6Spot.f a0_0 a0_1 a0_2 a0_3 a0_4 = some r) :
  Calls Try.prog 96 #[.agg #[.int .i64 a0_0, .int .i64 a0_1, .int .i64 a0_2, .int .i64 a0_3, .int .i64 a0_4]] w fun e w' => e = .returned (.int .i64 r) ∧ Below w.heap.size w w' := by
 have hu27 := Try.underlying27
 have HB := aA.mk (Below.refl w.heap.size w)
 have H : ((spec_SpotOf.f a0_0 a0_1).bind fun t267 => (some t267)) = some r := h
 clear h
 replace H := lF H
 obtain ⟨t267, A20, H⟩ := H
 replace H : (some t267) = some r := H
 have A2 := aA.mk A20
 clear A20
 obtain rfl := Option.some.inj H
 go_enter Try.func96, Try.ntmps96
 go_wp2_with (first | ((with_reducible refine bF (N := 1) rfl ?_); refine bH ?hg (N := 1) ?hd (cs := #[.int .i64 a0_0, .int .i64 a0_1, .int .i64 a0_2, .int .i64 a0_3, .int .i64 a0_4]) (t := 27) ?hr ?_; (case hd => rfl); (case hg => rfl); (case hr => first | (go_simp; done) | (go_simp; rfl)); intro gb266 hg w3 hbox hb; have n0_ := aA.mk (aV (by repeat (first | (with_reducible first | exact HB.out | apply aE | apply aC | apply aD) | exact HB.out)) hb); have n1_ := aA.mk (hbox); have n2_ := aA.mk ((by rw [hg]; exact (aQ (by repeat (first | (with_reducible first | exact HB.out | apply aE | apply aC | apply aD) | exact HB.out))) : w.heap.size ≤ gb266)); have n3_ := aA.mk ((by rw [hg]; exact (aQ (by repeat (first | (with_reducible first | exact HB.out | apply aE | apply aC | apply aD) | exact HB.out))) : w.heap.size ≤ gb266)); clear HB; have HB := n0_; have BK266 := n1_; have GW266 := n2_; have GE266 := n3_; clear n0_ n1_ n2_ n3_; clear hb hbox hg; have hcz4_0 : w3.cell? ⟨gb266, 0, none⟩ = some (.int .i64 a0_0) := (aG BK266.out 0).trans rfl; have hcz4_1 : w3.cell? ⟨gb266, 1, none⟩ = some (.int .i64 a0_1) := (aG BK266.out 1).trans rfl; have hcz4_2 : w3.cell? ⟨gb266, 2, none⟩ = some (.int .i64 a0_2) := (aG BK266.out 2).trans rfl; have hcz4_3 : w3.cell? ⟨gb266, 3, none⟩ = some (.int .i64 a0_3) := (aG BK266.out 3).trans rfl; have hcz4_4 : w3.cell? ⟨gb266, 4, none⟩ = some (.int .i64 a0_4) := (aG BK266.out 4).trans rfl; have hfz4_0 := aH BK266.out 0; have hfz4_1 := aH BK266.out 1; have hfz4_2 := aH BK266.out 2; have hfz4_3 := aH BK266.out 3; have hfz4_4 := aH BK266.out 4) | ((with_reducible refine bC (f := 81) rfl ?_); refine bL (some 7) rfl rfl Try.func81 (by kernel_rfl) rfl #[.int .i64 a0_0, .int .i64 a0_1] rfl (by (try simp only [List.map_toArray, List.map_cons, List.map_nil]); first | done | rfl | (simp only [List.length_drop, List.length_take]; rfl)) ?_; (with_reducible refine (spec_SpotOf.calls a0_0 a0_1 t267 _ A2.out).mono ?_); rintro e w' ⟨rfl, ⟨nd, rfl⟩⟩; refine ⟨_, rfl, ?_⟩))
 go_ret
 exact ⟨by first | rfl | (simp [errW_none, errW_some] <;> rfl) | (simp [*, errW_none, errW_some] <;> rfl), by repeat (first | (with_reducible first | exact HB.out | apply aE | apply aC | apply aD | refine aJ ?_ GE266.out) | exact HB.out)⟩
end Go.Proofs.Ythpfihklkcnckaa.PFnExactTreeOk

namespace Go.Proofs.Ythpfihklkcnckaa.PFnExactTreeOk
open Go.RowKit Go.Proofs.YthpfihklkcnckaaW.PrintWords Go.Proofs.YthpfihklkcnckaaW.PrintLast Go.Proofs.YthpfihklkcnckaaW.PrintMore
attribute [local go_sem] max2_int min2_int max_two min_two max_three min_three max_four min_four   -- for this text's walks alone
set_option linter.unusedVariables false
set_option linter.unusedSimpArgs false
mutual
def spec_l6Node.j0 : Nat → Int → Bool → List Int → List (S32) → List (List (S27)) → Option (Bool)
 | 0, _, _, _, _, _ => none
 | k + 1, x1, x26, x269000, x269001, x271000 => if x26 = true then (some false) else (spec_l6Node.l0 k x1 0 x269000 x269001 x271000)
def spec_l6Node.l0 : Nat → Int → Int → List Int → List (S32) → List (List (S27)) → Option (Bool)
 | 0, _, _, _, _, _ => none
 | k + 1, x1, x6, x269000, x269001, x271000 => if x6 < (x271000.length : Int) then (spec_l6Node.l1 k x1 x6 0 x269000 x269001 x271000) else (some true)
def spec_l6Node.l1 : Nat → Int → Int → Int → List Int → List (S32) → List (List (S27)) → Option (Bool)
 | 0, _, _, _, _, _, _ => none
 | k + 1, x1, x6, x7, x269000, x269001, x271000 => if 0 ≤ x6 then (if x6 < (x271000.length : Int) then (if x7 < ((rd_L2 x271000 x6).length : Int) then (if 0 ≤ x7 then ((spec_l6Spot.f ((rd_T27 (rd_L2 x271000 x6) x7).f0) ((rd_T27 (rd_L2 x271000 x6) x7).f1) ((rd_T27 (rd_L2 x271000 x6) x7).f2) ((rd_T27 (rd_L2 x271000 x6) x7).f3) ((rd_T27 (rd_L2 x271000 x6) x7).f4)).bind fun t278 => (if 0 ≤ x1 then (if x1 < (x269000.length : Int) then (if t278 < (rd x269000 x1) then (some false) else (if (wrap64 (x1 + 1)) < (x269000.length : Int) then (if 0 ≤ (wrap64 (x1 + 1)) then (if t278 ≥ (rd x269000 (wrap64 (x1 + 1))) then (some false) else (spec_l6Node.l1 k x1 x6 (wrap64 (x7 + 1)) x269000 x269001 x271000)) else (none)) else (spec_l6Node.l1 k x1 x6 (wrap64 (x7 + 1)) x269000 x269001 x271000))) else (none)) else (none))) else (none)) else (spec_l6Node.l0 k x1 (wrap64 (x6 + 1)) x269000 x269001 x271000)) else (none)) else (none)
end
def spec_l6Node.f (k : Nat) (l0_0 : List Int) (l0_1 : List (S32)) (a1 : Int) : Option (Bool) := if 0 ≤ a1 then (if a1 < (l0_1.length : Int) then ((spec_NodeOk.f k ((rd_T32 l0_1 a1).f0)).bind fun t271 => (if t271 = true then (if a1 > 0 then ((spec_NodeKeys.f k ((rd_T32 l0_1 a1).f0)).bind fun t272 => (spec_l6Node.j0 k a1 ((t272.length : Int) == 0) l0_0 l0_1 ((rd_T32 l0_1 a1).f0))) else (spec_l6Node.j0 k a1 false l0_0 l0_1 ((rd_T32 l0_1 a1).f0))) else (spec_l6Node.j0 k a1 true l0_0 l0_1 ((rd_T32 l0_1 a1).f0)))) else (none)) else (none)
set_option maxHeartbeats 8000000 in
set_option maxRecDepth 100000 in
theorem spec_l6Node.calls (k : Nat) (A0_0 : Option Addr) (c0_0 : Nat) (l0_0 : List Int) (A0_1 : Option Addr) (c0_1 : Nat) (l0_1 : List (S32)) (a1 : Int) (r : Bool) (w : World) (hr0_0 : Kd.C (Kd.int .i64) w A0_0 l0_0.length l0_0) (hc0_0 : l0_0.length ≤ c0_0) (hr0_1 : Kd.C k32 w A0_1 l0_1.length l0_1) (hc0_1 : l0_1.length ≤ c0_1) (h : spec_l6Node.f k l0_0 l0_1 a1 = some r) :
  Calls Try.prog 87 #[.agg #[.slice A0_0 l0_0.length c0_0, .slice A0_1 l0_1.length c0_1], .int .i64 a1] w fun e w' => e = .returned (.bool r) ∧ Below w.heap.size w w' := by
 have hu58 := Try.underlying58
 have hu32 := Try.underlying32
 have hu27 := Try.underlying27
 have HR0_0 := aA.mk hr0_0
 have HC0_0 := aA.mk hc0_0
 clear hr0_0 hc0_0
 have HR0_1 := aA.mk hr0_1
 have HC0_1 := aA.mk hc0_1
 clear hr0_1 hc0_1
 have HB := aA.mk (Below.refl w.heap.size w)
 have H : (if 0 ≤ a1 then (if a1 < (l0_1.length : Int) then ((spec_NodeOk.f k ((rd_T32 l0_1 a1).f0)).bind fun t271 => (if t271 = true then (if a1 > 0 then ((spec_NodeKeys.f k ((rd_T32 l0_1 a1).f0)).bind fun t272 => (spec_l6Node.j0 k a1 ((t272.length : Int) == 0) l0_0 l0_1 ((rd_T32 l0_1 a1).f0))) else (spec_l6Node.j0 k a1 false l0_0 l0_1 ((rd_T32 l0_1 a1).f0))) else (spec_l6Node.j0 k a1 true l0_0 l0_1 ((rd_T32 l0_1 a1).f0)))) else (none)) else (none)) = some r := h
 clear h
 by_cases c3 : 0 ≤ a1
 ·rw [if_pos c3] at H
  have c3b0 : decide (0 ≤ a1) = true := decide_eq_true c3
  clear c3
  by_cases c4 : a1 < (l0_1.length : Int)
  ·rw [if_pos c4] at H
   have c4b0 : decide (a1 < (l0_1.length : Int)) = true := decide_eq_true c4
   clear c4
   have HC5 := aA.mk H
   clear H
   go_enter Try.func87, Try.ntmps87
   go_upto_region 2 with (first | ((with_reducible refine bF (N := 2) rfl ?_); (try (refine gate_guard (by rfl) ?_; dsimp only)); refine bH ?hg (N := 2) ?hd (cs := #[.slice A0_0 l0_0.length c0_0, .slice A0_1 l0_1.length c0_1]) (t := 58) ?hr ?_; (case hd => rfl); (case hg => rfl); (case hr => first | (go_simp; done) | (go_simp; rfl)); intro gb268 hg w6 hbox hb; have n0_ := aA.mk (aV (by repeat (first | (with_reducible first | exact HB.out | apply aE | apply aC | apply aD) | exact HB.out)) hb); have n1_ := aA.mk (hbox); have n2_ := aA.mk ((by rw [hg]; exact (aQ (by repeat (first | (with_reducible first | exact HB.out | apply aE | apply aC | apply aD) | exact HB.out))) : w.heap.size ≤ gb268)); have n3_ := aA.mk ((by rw [hg]; exact (aQ (by repeat (first | (with_reducible first | exact HB.out | apply aE | apply aC | apply aD) | exact HB.out))) : w.heap.size ≤ gb268)); clear HB; have HB := n0_; have BK268 := n1_; have GW268 := n2_; have GE268 := n3_; clear n0_ n1_ n2_ n3_; clear hb hbox hg; have hcz7_0 : w6.cell? ⟨gb268, 0, none⟩ = some (.slice A0_0 l0_0.length c0_0) := (aG BK268.out 0).trans rfl; have hcz7_1 : w6.cell? ⟨gb268, 1, none⟩ = some (.slice A0_1 l0_1.length c0_1) := (aG BK268.out 1).trans rfl; have hfz7_0 := aH BK268.out 0; have hfz7_1 := aH BK268.out 1; have p269 : 0 ≤ (a1 : Int) := lE (by first | (with_reducible assumption) | assumption); have q269 : a1 < (l0_1.length : Int) := lE (by first | (with_reducible assumption) | assumption); obtain ⟨ad269, A269_0, c269_0, e269, hx269_0, hl269_0, hi269_0⟩ := at_T32 HR0_1.out a1 p269 q269; cases e269; replace hx269_0 := (HB.out.cell (lD w _ hx269_0)).trans hx269_0; have HR269_0 := aA.mk hi269_0; have HC269_0 := aA.mk hl269_0; clear hi269_0 hl269_0; replace p269 := eq_true p269; replace q269 := eq_true q269) | ((with_reducible refine bF (N := 5) rfl ?_); (try (refine gate_guard (by rfl) ?_; dsimp only)); refine bH ?hg (N := 5) ?hd (cs := #[.slice none 0 0]) (t := 32) ?hr ?_; (case hd => rfl); (case hg => rfl); (case hr => first | (go_simp; done) | (go_simp; rfl)); intro gb270 hg w8 hbox hb; have n0_ := aA.mk (aY (g := gb268) (o := .cells #[.slice A0_0 l0_0.length c0_0, .slice (some ad269) l0_1.length c0_1] 58 (0, 0)) (by (with_reducible repeat (first | refine aK ?_ _ | refine aN ?_ | refine aM ?_ _)); exact BK268.out) hb); have n1_ := aA.mk (aV (by repeat (first | (with_reducible first | exact HB.out | apply aE | apply aC | apply aD | refine aJ ?_ GE268.out) | exact HB.out)) hb); have n2_ := aA.mk (hbox); have n3_ := aA.mk ((by rw [hg]; exact (aQ (by repeat (first | (with_reducible first | exact HB.out | apply aE | apply aC | apply aD | refine aJ ?_ GE268.out) | exact HB.out))) : w.heap.size ≤ gb270)); have n4_ := aA.mk ((by rw [hg]; exact (aQ (by repeat (first | (with_reducible first | exact HB.out | apply aE | apply aC | apply aD | refine aJ ?_ GE268.out) | exact HB.out))) : w.heap.size ≤ gb270)); have n5_ := aA.mk ((by rw [hg]; exact Nat.ne_of_lt (bN (g := gb268) (o := .cells #[.slice A0_0 l0_0.length c0_0, .slice (some ad269) l0_1.length c0_1] 58 (0, 0)) (by (with_reducible repeat (first | refine aK ?_ _ | refine aN ?_ | refine aM ?_ _)); exact BK268.out)) : gb268 ≠ gb270)); have n6_ := aA.mk ((by rw [hg]; exact Nat.ne_of_gt (bN (g := gb268) (o := .cells #[.slice A0_0 l0_0.length c0_0, .slice (some ad269) l0_1.length c0_1] 58 (0, 0)) (by (with_reducible repeat (first | refine aK ?_ _ | refine aN ?_ | refine aM ?_ _)); exact BK268.out)) : gb270 ≠ gb268)); clear BK268; clear HB; have BK268 := n0_; have HB := n1_; have BK270 := n2_; have GW270 := n3_; have GE270 := n4_; have NB268_270 := n5_; have NB270_268 := n6_; clear n0_ n1_ n2_ n3_ n4_ n5_ n6_; clear hb hbox hg; have hnb9 := NB270_268.out; have hnc9 := NB268_270.out; have hcz10_0 : w8.cell? ⟨gb270, 0, none⟩ = some (.slice none 0 0) := (aG BK270.out 0).trans rfl; have hfz10_0 := aH BK270.out 0))
   (try simp only [Act.put, lA, lB, lC])
   go_cut [26] (fun v26 wc => ∃ (kq : Nat) (x26_4 : Bool), v26 = .bool x26_4 ∧ aA (spec_l6Node.j0 kq a1 x26_4 l0_0 l0_1 ((rd_T32 l0_1 a1).f0) = some r) ∧ aA (kq ≤ k) ∧ aA (wc.heap[gb268]? = some (.cells #[(.slice A0_0 l0_0.length c0_0), (.slice (some ad269) l0_1.length c0_1)] 58 (0, 0))) ∧ aA (wc.heap[gb270]? = some (.cells #[(.slice A269_0 ((rd_T32 l0_1 a1).f0).length c269_0)] 32 (0, 0))) ∧ aA (Below w.heap.size w wc))
   case first =>
    have H := HC5.out
    clear HC5
    replace H := lF H
    obtain ⟨t271, A110, H⟩ := H
    replace H : (if t271 = true then (if a1 > 0 then ((spec_NodeKeys.f k ((rd_T32 l0_1 a1).f0)).bind fun t272 => (spec_l6Node.j0 k a1 ((t272.length : Int) == 0) l0_0 l0_1 ((rd_T32 l0_1 a1).f0))) else (spec_l6Node.j0 k a1 false l0_0 l0_1 ((rd_T32 l0_1 a1).f0))) else (spec_l6Node.j0 k a1 true l0_0 l0_1 ((rd_T32 l0_1 a1).f0))) = some r := H
    have A11 := aA.mk A110
    clear A110
    by_cases c12 : t271 = true
    ·subst c12
     have H1 : (if a1 > 0 then ((spec_NodeKeys.f k ((rd_T32 l0_1 a1).f0)).bind fun t272 => (spec_l6Node.j0 k a1 ((t272.length : Int) == 0) l0_0 l0_1 ((rd_T32 l0_1 a1).f0))) else (spec_l6Node.j0 k a1 false l0_0 l0_1 ((rd_T32 l0_1 a1).f0))) = some r := by rw [if_pos rfl] at H; exact H
     clear H
     have H := H1
     clear H1
     by_cases c13 : a1 > 0
     ·rw [if_pos c13] at H
      have c13b0 : decide (0 < a1) = true := decide_eq_true c13
      clear c13
      (first | rw [c13b0] | (simp only [aT, aU]; rw [c13b0]) | skip)
      replace H := lF H
      obtain ⟨t272, A140, H⟩ := H
      replace H : (spec_l6Node.j0 k a1 ((t272.length : Int) == 0) l0_0 l0_1 ((rd_T32 l0_1 a1).f0)) = some r := H
      have A14 := aA.mk A140
      clear A140
      have H' := aA.mk H
      clear H
      have hnb15 := NB270_268.out
      have hnc15 := NB268_270.out
      have hcz16_0 : w8.cell? ⟨gb270, 0, none⟩ = some (.slice none 0 0) := (aG BK270.out 0).trans rfl
      have hfz16_0 := aH BK270.out 0
      go_wp2_with (first | ((with_reducible refine bC (f := 28) rfl ?_); refine bL (some 15) rfl rfl Try.func28 (by kernel_rfl) rfl #[.agg #[.slice A269_0 ((rd_T32 l0_1 a1).f0).length c269_0]] rfl (by (try simp only [List.map_toArray, List.map_cons, List.map_nil]); first | done | rfl | (simp only [List.length_drop, List.length_take]; rfl)) ?_; (with_reducible refine (spec_NodeOk.calls k _ _ ((rd_T32 l0_1 a1).f0) true _ ?side1 ?side2 A11.out).mono ?_); (case side1 => exact Kd.bJ HR269_0.out (by repeat (first | (with_reducible first | exact HB.out | apply aE | apply aC | apply aD | refine aJ ?_ GE268.out | refine aJ ?_ GE270.out) | exact HB.out))); (case side2 => exact HC269_0.out); rintro e w17 ⟨rfl, hb⟩; refine ⟨_, rfl, ?_⟩; have n0_ := aA.mk (aY (g := gb268) (o := .cells #[.slice A0_0 l0_0.length c0_0, .slice (some ad269) l0_1.length c0_1] 58 (0, 0)) (by (with_reducible repeat (first | refine aK ?_ _ | refine aN ?_ | refine aM ?_ _)); refine blk_far ?_ NB268_270.out _; (with_reducible repeat (first | refine aK ?_ _ | refine aN ?_ | refine aM ?_ _)); exact BK268.out) hb); have n1_ := aA.mk (aY (g := gb270) (o := .cells #[.slice A269_0 ((rd_T32 l0_1 a1).f0).length c269_0] 32 (0, 0)) (by (with_reducible repeat (first | refine aK ?_ _ | refine aN ?_ | refine aM ?_ _)); refine bM (cs := #[.slice none 0 0]) ?_ 0 _ rfl; (with_reducible repeat (first | refine aK ?_ _ | refine aN ?_ | refine aM ?_ _)); exact BK270.out) hb); have n2_ := aA.mk (aV (by repeat (first | (with_reducible first | exact HB.out | apply aE | apply aC | apply aD | refine aJ ?_ GE268.out | refine aJ ?_ GE270.out) | exact HB.out)) hb); clear BK268; clear BK270; clear HB; have BK268 := n0_; have BK270 := n1_; have HB := n2_; clear n0_ n1_ n2_; (try clear hb); have hcz18_0 : w17.cell? ⟨gb270, 0, none⟩ = some (.slice A269_0 ((rd_T32 l0_1 a1).f0).length c269_0) := (aG BK270.out 0).trans rfl; have hfz18_0 := aH BK270.out 0) | (go_at_call 30; (with_reducible refine (spec_NodeKeys.calls k _ _ ((rd_T32 l0_1 a1).f0) t272 _ ?side1 ?side2 A14.out).mono ?_); (case side1 => repeat (first | exact (Kd.bJ HR269_0.out HB.out) | (with_reducible refine Kd.bD ?_ _) | (with_reducible refine Kd.bE ?_ _) | (with_reducible refine Kd.bK ?_))); (case side2 => exact HC269_0.out); rintro e w19 ⟨v273, rfl, ho0, hb⟩; have n0_ := aA.mk (Kd.R_lower ho0 (aQ (by repeat (first | (with_reducible first | exact HB.out | apply aE | apply aC | apply aD | refine aJ ?_ GE268.out | refine aJ ?_ GE270.out) | exact HB.out)))); have n1_ := aA.mk (aY (g := gb268) (o := .cells #[.slice A0_0 l0_0.length c0_0, .slice (some ad269) l0_1.length c0_1] 58 (0, 0)) (by (with_reducible repeat (first | refine aK ?_ _ | refine aN ?_ | refine aM ?_ _)); exact BK268.out) hb); have n2_ := aA.mk (aY (g := gb270) (o := .cells #[.slice A269_0 ((rd_T32 l0_1 a1).f0).length c269_0] 32 (0, 0)) (by (with_reducible repeat (first | refine aK ?_ _ | refine aN ?_ | refine aM ?_ _)); exact BK270.out) hb); have n3_ := aA.mk (aV (by repeat (first | (with_reducible first | exact HB.out | apply aE | apply aC | apply aD | refine aJ ?_ GE268.out | refine aJ ?_ GE270.out) | exact HB.out)) hb); clear BK268; clear BK270; clear HB; have HO274 := n0_; have BK268 := n1_; have BK270 := n2_; have HB := n3_; clear n0_ n1_ n2_ n3_; (try clear hb); (try clear ho0); obtain ⟨Ao20, co20, eo20⟩ := Kd.R_slice HO274.out; subst eo20))
      go_meet
      case rel => exact ⟨_, (((t272.length : Int) == 0)), (by first | rfl | (simp; done) | (simp [*]; done)), H', ⟨by first | omega | exact Nat.le_refl _⟩, ⟨by (with_reducible repeat (first | refine aK ?_ _ | refine aN ?_ | refine aM ?_ _)); exact BK268.out⟩, ⟨by (with_reducible repeat (first | refine aK ?_ _ | refine aN ?_ | refine aM ?_ _)); exact BK270.out⟩, ⟨by repeat (first | (with_reducible first | exact HB.out | apply aE | apply aC | apply aD | refine aJ ?_ GE268.out | refine aJ ?_ GE270.out) | exact HB.out)⟩⟩
     ·rw [if_neg c13] at H
      have c13b0 : decide (0 < a1) = false := decide_eq_false c13
      clear c13
      (first | rw [c13b0] | (simp only [aT, aU]; rw [c13b0]) | skip)
      have H' := aA.mk H
      clear H
      have hnb21 := NB270_268.out
      have hnc21 := NB268_270.out
      have hcz22_0 : w8.cell? ⟨gb270, 0, none⟩ = some (.slice none 0 0) := (aG BK270.out 0).trans rfl
      have hfz22_0 := aH BK270.out 0
      go_wp2_with (first | ((with_reducible refine bC (f := 28) rfl ?_); refine bL (some 15) rfl rfl Try.func28 (by kernel_rfl) rfl #[.agg #[.slice A269_0 ((rd_T32 l0_1 a1).f0).length c269_0]] rfl (by (try simp only [List.map_toArray, List.map_cons, List.map_nil]); first | done | rfl | (simp only [List.length_drop, List.length_take]; rfl)) ?_; (with_reducible refine (spec_NodeOk.calls k _ _ ((rd_T32 l0_1 a1).f0) true _ ?side1 ?side2 A11.out).mono ?_); (case side1 => exact Kd.bJ HR269_0.out (by repeat (first | (with_reducible first | exact HB.out | apply aE | apply aC | apply aD | refine aJ ?_ GE268.out | refine aJ ?_ GE270.out) | exact HB.out))); (case side2 => exact HC269_0.out); rintro e w23 ⟨rfl, hb⟩; refine ⟨_, rfl, ?_⟩; have n0_ := aA.mk (aY (g := gb268) (o := .cells #[.slice A0_0 l0_0.length c0_0, .slice (some ad269) l0_1.length c0_1] 58 (0, 0)) (by (with_reducible repeat (first | refine aK ?_ _ | refine aN ?_ | refine aM ?_ _)); refine blk_far ?_ NB268_270.out _; (with_reducible repeat (first | refine aK ?_ _ | refine aN ?_ | refine aM ?_ _)); exact BK268.out) hb); have n1_ := aA.mk (aY (g := gb270) (o := .cells #[.slice A269_0 ((rd_T32 l0_1 a1).f0).length c269_0] 32 (0, 0)) (by (with_reducible repeat (first | refine aK ?_ _ | refine aN ?_ | refine aM ?_ _)); refine bM (cs := #[.slice none 0 0]) ?_ 0 _ rfl; (with_reducible repeat (first | refine aK ?_ _ | refine aN ?_ | refine aM ?_ _)); exact BK270.out) hb); have n2_ := aA.mk (aV (by repeat (first | (with_reducible first | exact HB.out | apply aE | apply aC | apply aD | refine aJ ?_ GE268.out | refine aJ ?_ GE270.out) | exact HB.out)) hb); clear BK268; clear BK270; clear HB; have BK268 := n0_; have BK270 := n1_; have HB := n2_; clear n0_ n1_ n2_; (try clear hb)))
      go_meet
      case rel => exact ⟨_, (false), (by first | rfl | (simp; done) | (simp [*]; done)), H', ⟨by first | omega | exact Nat.le_refl _⟩, ⟨by (with_reducible repeat (first | refine aK ?_ _ | refine aN ?_ | refine aM ?_ _)); exact BK268.out⟩, ⟨by (with_reducible repeat (first | refine aK ?_ _ | refine aN ?_ | refine aM ?_ _)); exact BK270.out⟩, ⟨by repeat (first | (with_reducible first | exact HB.out | apply aE | apply aC | apply aD | refine aJ ?_ GE268.out | refine aJ ?_ GE270.out) | exact HB.out)⟩⟩
    ·replace c12 := Bool.eq_false_iff.mpr c12
     subst c12
     have H1 : (spec_l6Node.j0 k a1 true l0_0 l0_1 ((rd_T32 l0_1 a1).f0)) = some r := by rw [if_neg (show ¬ (false = true) by decide)] at H; exact H
     clear H
     have H := H1
     clear H1
     have H' := aA.mk H
     clear H
     have hnb24 := NB270_268.out
     have hnc24 := NB268_270.out
     have hcz25_0 : w8.cell? ⟨gb270, 0, none⟩ = some (.slice none 0 0) := (aG BK270.out 0).trans rfl
     have hfz25_0 := aH BK270.out 0
     go_wp2_with (first | ((with_reducible refine bC (f := 28) rfl ?_); refine bL (some 15) rfl rfl Try.func28 (by kernel_rfl) rfl #[.agg #[.slice A269_0 ((rd_T32 l0_1 a1).f0).length c269_0]] rfl (by (try simp only [List.map_toArray, List.map_cons, List.map_nil]); first | done | rfl | (simp only [List.length_drop, List.length_take]; rfl)) ?_; (with_reducible refine (spec_NodeOk.calls k _ _ ((rd_T32 l0_1 a1).f0) false _ ?side1 ?side2 A11.out).mono ?_); (case side1 => exact Kd.bJ HR269_0.out (by repeat (first | (with_reducible first | exact HB.out | apply aE | apply aC | apply aD | refine aJ ?_ GE268.out | refine aJ ?_ GE270.out) | exact HB.out))); (case side2 => exact HC269_0.out); rintro e w26 ⟨rfl, hb⟩; refine ⟨_, rfl, ?_⟩; have n0_ := aA.mk (aY (g := gb268) (o := .cells #[.slice A0_0 l0_0.length c0_0, .slice (some ad269) l0_1.length c0_1] 58 (0, 0)) (by (with_reducible repeat (first | refine aK ?_ _ | refine aN ?_ | refine aM ?_ _)); refine blk_far ?_ NB268_270.out _; (with_reducible repeat (first | refine aK ?_ _ | refine aN ?_ | refine aM ?_ _)); exact BK268.out) hb); have n1_ := aA.mk (aY (g := gb270) (o := .cells #[.slice A269_0 ((rd_T32 l0_1 a1).f0).length c269_0] 32 (0, 0)) (by (with_reducible repeat (first | refine aK ?_ _ | refine aN ?_ | refine aM ?_ _)); refine bM (cs := #[.slice none 0 0]) ?_ 0 _ rfl; (with_reducible repeat (first | refine aK ?_ _ | refine aN ?_ | refine aM ?_ _)); exact BK270.out) hb); have n2_ := aA.mk (aV (by repeat (first | (with_reducible first | exact HB.out | apply aE | apply aC | apply aD | refine aJ ?_ GE268.out | refine aJ ?_ GE270.out) | exact HB.out)) hb); clear BK268; clear BK270; clear HB; have BK268 := n0_; have BK270 := n1_; have HB := n2_; clear n0_ n1_ n2_; (try clear hb)))
     go_meet
     case rel => exact ⟨_, (true), (by first | rfl | (simp; done) | (simp [*]; done)), H', ⟨by first | omega | exact Nat.le_refl _⟩, ⟨by (with_reducible repeat (first | refine aK ?_ _ | refine aN ?_ | refine aM ?_ _)); exact BK268.out⟩, ⟨by (with_reducible repeat (first | refine aK ?_ _ | refine aN ?_ | refine aM ?_ _)); exact BK270.out⟩, ⟨by repeat (first | (with_reducible first | exact HB.out | apply aE | apply aC | apply aD | refine aJ ?_ GE268.out | refine aJ ?_ GE270.out) | exact HB.out)⟩⟩
   case rest =>
    clear HC5
    try clear c1
    try clear c2
    try clear p2
    try clear q2
    try clear hx2
    try clear c3
    try clear c3b0
    try clear c4
    try clear c4b0
    try clear c8
    try clear c9
    try clear c12
    try clear c13
    try clear c13b0
    try clear c15
    try clear c21
    try clear c24
    try clear c26
    try clear p26
    try clear q26
    try clear hx26
    try clear hcz10_0
    try clear hcz16_0
    try clear hcz18_0
    try clear hcz22_0
    try clear hcz25_0
    try clear hcz7_0
    try clear hcz7_1
    try clear hfz10_0
    try clear hfz16_0
    try clear hfz18_0
    try clear hfz22_0
    try clear hfz25_0
    try clear hfz7_0
    try clear hfz7_1
    try clear hx269_0
    try clear p269
    try clear q269
    obtain ⟨kq, x26_4, rfl, HA, HJ4, BK268, BK270, HB⟩ := hcut
    cases kq with
    | zero => exact absurd HA.out (by simp [spec_l6Node.j0])
    | succ kj4 =>
     have H := HA.out
     clear HA
     simp only [spec_l6Node.j0] at H
     by_cases c27 : x26_4 = true
     ·subst c27
      have H1 : (some false) = some r := by rw [if_pos rfl] at H; exact H
      clear H
      have H := H1
      clear H1
      obtain rfl := Option.some.inj H
      go_wp2
      go_ret
      exact ⟨by first | rfl | (simp [errW_none, errW_some] <;> rfl) | (simp [*, errW_none, errW_some] <;> rfl), by repeat (first | (with_reducible first | exact HB.out | apply aE | apply aC | apply aD | refine aJ ?_ GE268.out | refine aJ ?_ GE270.out) | exact HB.out)⟩
     ·replace c27 := Bool.eq_false_iff.mpr c27
      subst c27
      have H1 : (spec_l6Node.l0 kj4 a1 0 l0_0 l0_1 ((rd_T32 l0_1 a1).f0)) = some r := by rw [if_neg (show ¬ (false = true) by decide)] at H; exact H
      clear H
      have H := H1
      clear H1
      have H' := aA.mk H
      clear H
      go_wp2
      go_loopg [6] kj4 (fun kq v6 w' => ∃ (x6_2 : Int), v6 = .int .i64 x6_2 ∧ aA (spec_l6Node.l0 kq a1 x6_2 l0_0 l0_1 ((rd_T32 l0_1 a1).f0) = some r) ∧ aA (kq ≤ kj4) ∧ aA (w'.heap[gb268]? = some (.cells #[(.slice A0_0 l0_0.length c0_0), (.slice (some ad269) l0_1.length c0_1)] 58 (0, 0))) ∧ aA (w'.heap[gb270]? = some (.cells #[(.slice A269_0 ((rd_T32 l0_1 a1).f0).length c269_0)] 32 (0, 0))) ∧ aA (Below w.heap.size w w'))
      case atStart => exact ⟨(0), (by first | rfl | (simp; done) | (simp [*]; done)), H', ⟨Nat.le_refl _⟩, ⟨by (with_reducible repeat (first | refine aK ?_ _ | refine aN ?_ | refine aM ?_ _)); exact BK268.out⟩, ⟨by (with_reducible repeat (first | refine aK ?_ _ | refine aN ?_ | refine aM ?_ _)); exact BK270.out⟩, ⟨by repeat (first | (with_reducible first | exact HB.out | apply aE | apply aC | apply aD | refine aJ ?_ GE268.out | refine aJ ?_ GE270.out) | exact HB.out)⟩⟩
      case round =>
       clear H'
       try clear c1
       try clear c2
       try clear p2
       try clear q2
       try clear hx2
       try clear c3
       try clear c3b0
       try clear c4
       try clear c4b0
       try clear c8
       try clear c9
       try clear c12
       try clear c13
       try clear c13b0
       try clear c15
       try clear c21
       try clear c24
       try clear c26
       try clear p26
       try clear q26
       try clear hx26
       try clear c27
       try clear hcz10_0
       try clear hcz16_0
       try clear hcz18_0
       try clear hcz22_0
       try clear hcz25_0
       try clear hcz7_0
       try clear hcz7_1
       try clear hfz10_0
       try clear hfz16_0
       try clear hfz18_0
       try clear hfz22_0
       try clear hfz25_0
       try clear hfz7_0
       try clear hfz7_1
       try clear hx269_0
       try clear p2
       try clear p26
       try clear p269
       try clear q2
       try clear q26
       try clear q269
       obtain ⟨x6_2, rfl, HA, HK2, BK268, BK270, HB⟩ := hrel
       cases gk with
       | zero => exact absurd HA.out (by simp [spec_l6Node.l0])
       | succ k2 =>
        have H := HA.out
        clear HA
        simp only [spec_l6Node.l0] at H
        by_cases c28 : x6_2 < (((rd_T32 l0_1 a1).f0).length : Int)
        ·rw [if_pos c28] at H
         have c28b0 : decide (x6_2 < (((rd_T32 l0_1 a1).f0).length : Int)) = true := decide_eq_true c28
         clear c28
         have H' := aA.mk H
         clear H
         have hnb29 := NB270_268.out
         have hnc29 := NB268_270.out
         have hcz30_0 : wr.cell? ⟨gb270, 0, none⟩ = some (.slice A269_0 ((rd_T32 l0_1 a1).f0).length c269_0) := (aG BK270.out 0).trans rfl
         have hfz30_0 := aH BK270.out 0
         go_wp2
         go_loopg [7] k2 (fun kq v7 w' => ∃ (x7_3 : Int), v7 = .int .i64 x7_3 ∧ aA (spec_l6Node.l1 kq a1 x6_2 x7_3 l0_0 l0_1 ((rd_T32 l0_1 a1).f0) = some r) ∧ aA (kq ≤ k2) ∧ aA (w'.heap[gb268]? = some (.cells #[(.slice A0_0 l0_0.length c0_0), (.slice (some ad269) l0_1.length c0_1)] 58 (0, 0))) ∧ aA (w'.heap[gb270]? = some (.cells #[(.slice A269_0 ((rd_T32 l0_1 a1).f0).length c269_0)] 32 (0, 0))) ∧ aA (Below w.heap.size w w'))
         case atStart => exact ⟨(0), (by first | rfl | (simp; done) | (simp [*]; done)), H', ⟨Nat.le_refl _⟩, ⟨by (with_reducible repeat (first | refine aK ?_ _ | refine aN ?_ | refine aM ?_ _)); exact BK268.out⟩, ⟨by (with_reducible repeat (first | refine aK ?_ _ | refine aN ?_ | refine aM ?_ _)); exact BK270.out⟩, ⟨by repeat (first | (with_reducible first | exact HB.out | apply aE | apply aC | apply aD | refine aJ ?_ GE268.out | refine aJ ?_ GE270.out) | exact HB.out)⟩⟩
         case round =>
          clear H'
          try clear c1
          try clear c2
          try clear p2
          try clear q2
          try clear hx2
          try clear c3
          try clear c3b0
          try clear c4
          try clear c4b0
          try clear c8
          try clear c9
          try clear c12
          try clear c13
          try clear c13b0
          try clear c15
          try clear c21
          try clear c24
          try clear c26
          try clear p26
          try clear q26
          try clear hx26
          try clear c27
          try clear c28
          try clear c28b0
          try clear c29
          try clear hcz10_0
          try clear hcz16_0
          try clear hcz18_0
          try clear hcz22_0
          try clear hcz25_0
          try clear hcz30_0
          try clear hcz7_0
          try clear hcz7_1
          try clear hfz10_0
          try clear hfz16_0
          try clear hfz18_0
          try clear hfz22_0
          try clear hfz25_0
          try clear hfz30_0
          try clear hfz7_0
          try clear hfz7_1
          try clear hx269_0
          try clear p2
          try clear p26
          try clear p269
          try clear q2
          try clear q26
          try clear q269
          obtain ⟨x7_3, rfl, HA, HK3, BK268, BK270, HB⟩ := hrel
          cases gk with
          | zero => exact absurd HA.out (by simp [spec_l6Node.l1])
          | succ k3 =>
           have H := HA.out
           clear HA
           simp only [spec_l6Node.l1] at H
           by_cases c31 : 0 ≤ x6_2
           ·rw [if_pos c31] at H
            have c31b0 : decide (0 ≤ x6_2) = true := decide_eq_true c31
            clear c31
            by_cases c32 : x6_2 < (((rd_T32 l0_1 a1).f0).length : Int)
            ·rw [if_pos c32] at H
             have c32b0 : decide (x6_2 < (((rd_T32 l0_1 a1).f0).length : Int)) = true := decide_eq_true c32
             clear c32
             by_cases c33 : x7_3 < ((rd_L2 ((rd_T32 l0_1 a1).f0) x6_2).length : Int)
             ·rw [if_pos c33] at H
              have c33b0 : decide (x7_3 < ((rd_L2 ((rd_T32 l0_1 a1).f0) x6_2).length : Int)) = true := decide_eq_true c33
              clear c33
              by_cases c34 : 0 ≤ x7_3
              ·rw [if_pos c34] at H
               have c34b0 : decide (0 ≤ x7_3) = true := decide_eq_true c34
               clear c34
               replace H := lF H
               obtain ⟨t278, A350, H⟩ := H
               replace H : (if 0 ≤ a1 then (if a1 < (l0_0.length : Int) then (if t278 < (rd l0_0 a1) then (some false) else (if (wrap64 (a1 + 1)) < (l0_0.length : Int) then (if 0 ≤ (wrap64 (a1 + 1)) then (if t278 ≥ (rd l0_0 (wrap64 (a1 + 1))) then (some false) else (spec_l6Node.l1 k3 a1 x6_2 (wrap64 (x7_3 + 1)) l0_0 l0_1 ((rd_T32 l0_1 a1).f0))) else (none)) else (spec_l6Node.l1 k3 a1 x6_2 (wrap64 (x7_3 + 1)) l0_0 l0_1 ((rd_T32 l0_1 a1).f0)))) else (none)) else (none)) = some r := H
               have A35 := aA.mk A350
               clear A350
               by_cases c36 : 0 ≤ a1
               ·rw [if_pos c36] at H
                have c36b0 : decide (0 ≤ a1) = true := decide_eq_true c36
                clear c36
                by_cases c37 : a1 < (l0_0.length : Int)
                ·rw [if_pos c37] at H
                 have c37b0 : decide (a1 < (l0_0.length : Int)) = true := decide_eq_true c37
                 clear c37
                 by_cases c38 : t278 < (rd l0_0 a1)
                 ·rw [if_pos c38] at H
                  have c38b0 : decide (t278 < (rd l0_0 a1)) = true := decide_eq_true c38
                  clear c38
                  obtain rfl := Option.some.inj H
                  have hnb39 := NB270_268.out
                  have hnc39 := NB268_270.out
                  have hcz40_0 : wr.cell? ⟨gb270, 0, none⟩ = some (.slice A269_0 ((rd_T32 l0_1 a1).f0).length c269_0) := (aG BK270.out 0).trans rfl
                  have hfz40_0 := aH BK270.out 0
                  have p275 : 0 ≤ (x6_2 : Int) := lE (by first | (with_reducible assumption) | assumption)
                  have q275 : x6_2 < (((rd_T32 l0_1 a1).f0).length : Int) := lE (by first | (with_reducible assumption) | assumption)
                  obtain ⟨ad275, A275_0, c275_0, e275, hx275_0, hl275_0, hi275_0⟩ := at_L2 HR269_0.out x6_2 p275 q275
                  cases e275
                  replace hx275_0 := (HB.out.cell (lD w _ hx275_0)).trans hx275_0
                  have HR275_0 := aA.mk hi275_0
                  have HC275_0 := aA.mk hl275_0
                  clear hi275_0 hl275_0
                  replace p275 := eq_true p275
                  replace q275 := eq_true q275
                  have p276 : 0 ≤ (x6_2 : Int) := lE (by first | (with_reducible assumption) | assumption)
                  have q276 : x6_2 < (((rd_T32 l0_1 a1).f0).length : Int) := lE (by first | (with_reducible assumption) | assumption)
                  obtain ⟨ad276, A276_0, c276_0, e276, hx276_0, hl276_0, hi276_0⟩ := at_L2 HR269_0.out x6_2 p276 q276
                  obtain rfl : ad275 = ad276 := (by injection e276)
                  replace hx276_0 := (HB.out.cell (lD w _ hx276_0)).trans hx276_0
                  have HR276_0 := aA.mk hi276_0
                  have HC276_0 := aA.mk hl276_0
                  clear hi276_0 hl276_0
                  replace p276 := eq_true p276
                  replace q276 := eq_true q276
                  have ea_ := Option.some.inj (hx275_0.symm.trans hx276_0)
                  injection ea_ with ea_ en_ ec_
                  subst ea_
                  subst ec_
                  clear en_
                  have p277 : 0 ≤ (x7_3 : Int) := lE (by first | (with_reducible assumption) | assumption)
                  have q277 : x7_3 < ((rd_L2 ((rd_T32 l0_1 a1).f0) x6_2).length : Int) := lE (by first | (with_reducible assumption) | assumption)
                  obtain ⟨ad277, e277, hx277_0, hx277_1, hx277_2, hx277_3, hx277_4⟩ := at_T27 HR276_0.out x7_3 p277 q277
                  cases e277
                  replace hx277_0 := (HB.out.cell (lD w _ hx277_0)).trans hx277_0
                  replace hx277_1 := (HB.out.cell (lD w _ hx277_1)).trans hx277_1
                  replace hx277_2 := (HB.out.cell (lD w _ hx277_2)).trans hx277_2
                  replace hx277_3 := (HB.out.cell (lD w _ hx277_3)).trans hx277_3
                  replace hx277_4 := (HB.out.cell (lD w _ hx277_4)).trans hx277_4
                  replace p277 := eq_true p277
                  replace q277 := eq_true q277
                  go_wp2_with (first | ((with_reducible refine bC (f := 96) rfl ?_); refine bL (some 52) rfl rfl Try.func96 (by kernel_rfl) rfl #[.agg #[.int .i64 ((rd_T27 (rd_L2 ((rd_T32 l0_1 a1).f0) x6_2) x7_3).f0), .int .i64 ((rd_T27 (rd_L2 ((rd_T32 l0_1 a1).f0) x6_2) x7_3).f1), .int .i64 ((rd_T27 (rd_L2 ((rd_T32 l0_1 a1).f0) x6_2) x7_3).f2), .int .i64 ((rd_T27 (rd_L2 ((rd_T32 l0_1 a1).f0) x6_2) x7_3).f3), .int .i64 ((rd_T27 (rd_L2 ((rd_T32 l0_1 a1).f0) x6_2) x7_3).f4)]] rfl (by (try simp only [List.map_toArray, List.map_cons, List.map_nil]); first | done | rfl | (simp only [List.length_drop, List.length_take]; rfl)) ?_; (with_reducible refine (spec_l6Spot.calls ((rd_T27 (rd_L2 ((rd_T32 l0_1 a1).f0) x6_2) x7_3).f0) ((rd_T27 (rd_L2 ((rd_T32 l0_1 a1).f0) x6_2) x7_3).f1) ((rd_T27 (rd_L2 ((rd_T32 l0_1 a1).f0) x6_2) x7_3).f2) ((rd_T27 (rd_L2 ((rd_T32 l0_1 a1).f0) x6_2) x7_3).f3) ((rd_T27 (rd_L2 ((rd_T32 l0_1 a1).f0) x6_2) x7_3).f4) t278 _ A35.out).mono ?_); rintro e w41 ⟨rfl, hb⟩; refine ⟨_, rfl, ?_⟩; have n0_ := aA.mk (aY (g := gb268) (o := .cells #[.slice A0_0 l0_0.length c0_0, .slice (some ad269) l0_1.length c0_1] 58 (0, 0)) (by (with_reducible repeat (first | refine aK ?_ _ | refine aN ?_ | refine aM ?_ _)); exact BK268.out) hb); have n1_ := aA.mk (aY (g := gb270) (o := .cells #[.slice (some ad275) ((rd_T32 l0_1 a1).f0).length c269_0] 32 (0, 0)) (by (with_reducible repeat (first | refine aK ?_ _ | refine aN ?_ | refine aM ?_ _)); exact BK270.out) hb); have n2_ := aA.mk (aV (by repeat (first | (with_reducible first | exact HB.out | apply aE | apply aC | apply aD | refine aJ ?_ GE268.out | refine aJ ?_ GE270.out) | exact HB.out)) hb); clear BK268; clear BK270; clear HB; have BK268 := n0_; have BK270 := n1_; have HB := n2_; clear n0_ n1_ n2_; (try clear hb); have hcz42_0 : w41.cell? ⟨gb268, 0, none⟩ = some (.slice A0_0 l0_0.length c0_0) := (aG BK268.out 0).trans rfl; have hcz42_1 : w41.cell? ⟨gb268, 1, none⟩ = some (.slice (some ad269) l0_1.length c0_1) := (aG BK268.out 1).trans rfl; have hfz42_0 := aH BK268.out 0; have hfz42_1 := aH BK268.out 1; have p279 : 0 ≤ (a1 : Int) := lE (by first | (with_reducible assumption) | assumption); have q279 : a1 < (l0_0.length : Int) := lE (by first | (with_reducible assumption) | assumption); obtain ⟨ad279, e279, hx279_0⟩ := Kd.at_int HR0_0.out a1 p279 q279; cases e279; replace hx279_0 := (HB.out.cell (lD w _ hx279_0)).trans hx279_0; replace p279 := eq_true p279; replace q279 := eq_true q279))
                  go_ret
                  exact ⟨by first | rfl | (simp [errW_none, errW_some] <;> rfl) | (simp [*, errW_none, errW_some] <;> rfl), by repeat (first | (with_reducible first | exact HB.out | apply aE | apply aC | apply aD | refine aJ ?_ GE268.out | refine aJ ?_ GE270.out) | exact HB.out)⟩
                 ·rw [if_neg c38] at H
                  have c38b0 : decide (t278 < (rd l0_0 a1)) = false := decide_eq_false c38
                  clear c38
                  by_cases c43 : (wrap64 (a1 + 1)) < (l0_0.length : Int)
                  ·rw [if_pos c43] at H
                   have c43b0 : decide ((wrap64 (a1 + 1)) < (l0_0.length : Int)) = true := decide_eq_true c43
                   clear c43
                   obtain ⟨ji44, hji44⟩ : ∃ j_ : Int, (wrap64 (a1 + 1)) = j_ := ⟨_, rfl⟩
                   replace H : (if 0 ≤ (ji44) then (if t278 ≥ (rd l0_0 (ji44)) then (some false) else (spec_l6Node.l1 k3 a1 x6_2 (wrap64 (x7_3 + 1)) l0_0 l0_1 ((rd_T32 l0_1 a1).f0))) else (none)) = some r := by first | (rw [hji44] at H; exact H) | (simp only [hji44] at H ⊢; exact H)
                   (try rw [hji44] at c43b0)
                   (try rw [hji44] at A35)
                   have hji44w : (IntKind.i64.wrap (a1 + 1)) = ji44 := (aT _).trans hji44
                   by_cases c45 : 0 ≤ (ji44)
                   ·rw [if_pos c45] at H
                    have c45b0 : decide (0 ≤ (ji44)) = true := decide_eq_true c45
                    clear c45
                    by_cases c46 : t278 ≥ (rd l0_0 (ji44))
                    ·rw [if_pos c46] at H
                     have c46b0 : decide ((rd l0_0 (ji44)) ≤ t278) = true := decide_eq_true c46
                     clear c46
                     obtain rfl := Option.some.inj H
                     have hnb47 := NB270_268.out
                     have hnc47 := NB268_270.out
                     have hcz48_0 : wr.cell? ⟨gb270, 0, none⟩ = some (.slice A269_0 ((rd_T32 l0_1 a1).f0).length c269_0) := (aG BK270.out 0).trans rfl
                     have hfz48_0 := aH BK270.out 0
                     have p275 : 0 ≤ (x6_2 : Int) := lE (by first | (with_reducible assumption) | assumption)
                     have q275 : x6_2 < (((rd_T32 l0_1 a1).f0).length : Int) := lE (by first | (with_reducible assumption) | assumption)
                     obtain ⟨ad275, A275_0, c275_0, e275, hx275_0, hl275_0, hi275_0⟩ := at_L2 HR269_0.out x6_2 p275 q275
                     cases e275
                     replace hx275_0 := (HB.out.cell (lD w _ hx275_0)).trans hx275_0
                     have HR275_0 := aA.mk hi275_0
                     have HC275_0 := aA.mk hl275_0
                     clear hi275_0 hl275_0
                     replace p275 := eq_true p275
                     replace q275 := eq_true q275
                     have p276 : 0 ≤ (x6_2 : Int) := lE (by first | (with_reducible assumption) | assumption)
                     have q276 : x6_2 < (((rd_T32 l0_1 a1).f0).length : Int) := lE (by first | (with_reducible assumption) | assumption)
                     obtain ⟨ad276, A276_0, c276_0, e276, hx276_0, hl276_0, hi276_0⟩ := at_L2 HR269_0.out x6_2 p276 q276
                     obtain rfl : ad275 = ad276 := (by injection e276)
                     replace hx276_0 := (HB.out.cell (lD w _ hx276_0)).trans hx276_0
                     have HR276_0 := aA.mk hi276_0
                     have HC276_0 := aA.mk hl276_0
                     clear hi276_0 hl276_0
                     replace p276 := eq_true p276
                     replace q276 := eq_true q276
                     have ea_ := Option.some.inj (hx275_0.symm.trans hx276_0)
                     injection ea_ with ea_ en_ ec_
                     subst ea_
                     subst ec_
                     clear en_
                     have p277 : 0 ≤ (x7_3 : Int) := lE (by first | (with_reducible assumption) | assumption)
                     have q277 : x7_3 < ((rd_L2 ((rd_T32 l0_1 a1).f0) x6_2).length : Int) := lE (by first | (with_reducible assumption) | assumption)
                     obtain ⟨ad277, e277, hx277_0, hx277_1, hx277_2, hx277_3, hx277_4⟩ := at_T27 HR276_0.out x7_3 p277 q277
                     cases e277
                     replace hx277_0 := (HB.out.cell (lD w _ hx277_0)).trans hx277_0
                     replace hx277_1 := (HB.out.cell (lD w _ hx277_1)).trans hx277_1
                     replace hx277_2 := (HB.out.cell (lD w _ hx277_2)).trans hx277_2
                     replace hx277_3 := (HB.out.cell (lD w _ hx277_3)).trans hx277_3
                     replace hx277_4 := (HB.out.cell (lD w _ hx277_4)).trans hx277_4
                     replace p277 := eq_true p277
                     replace q277 := eq_true q277
                     go_wp2_with (first | ((with_reducible refine bC (f := 96) rfl ?_); refine bL (some 52) rfl rfl Try.func96 (by kernel_rfl) rfl #[.agg #[.int .i64 ((rd_T27 (rd_L2 ((rd_T32 l0_1 a1).f0) x6_2) x7_3).f0), .int .i64 ((rd_T27 (rd_L2 ((rd_T32 l0_1 a1).f0) x6_2) x7_3).f1), .int .i64 ((rd_T27 (rd_L2 ((rd_T32 l0_1 a1).f0) x6_2) x7_3).f2), .int .i64 ((rd_T27 (rd_L2 ((rd_T32 l0_1 a1).f0) x6_2) x7_3).f3), .int .i64 ((rd_T27 (rd_L2 ((rd_T32 l0_1 a1).f0) x6_2) x7_3).f4)]] rfl (by (try simp only [List.map_toArray, List.map_cons, List.map_nil]); first | done | rfl | (simp only [List.length_drop, List.length_take]; rfl)) ?_; (with_reducible refine (spec_l6Spot.calls ((rd_T27 (rd_L2 ((rd_T32 l0_1 a1).f0) x6_2) x7_3).f0) ((rd_T27 (rd_L2 ((rd_T32 l0_1 a1).f0) x6_2) x7_3).f1) ((rd_T27 (rd_L2 ((rd_T32 l0_1 a1).f0) x6_2) x7_3).f2) ((rd_T27 (rd_L2 ((rd_T32 l0_1 a1).f0) x6_2) x7_3).f3) ((rd_T27 (rd_L2 ((rd_T32 l0_1 a1).f0) x6_2) x7_3).f4) t278 _ A35.out).mono ?_); rintro e w49 ⟨rfl, hb⟩; refine ⟨_, rfl, ?_⟩; have n0_ := aA.mk (aY (g := gb268) (o := .cells #[.slice A0_0 l0_0.length c0_0, .slice (some ad269) l0_1.length c0_1] 58 (0, 0)) (by (with_reducible repeat (first | refine aK ?_ _ | refine aN ?_ | refine aM ?_ _)); exact BK268.out) hb); have n1_ := aA.mk (aY (g := gb270) (o := .cells #[.slice (some ad275) ((rd_T32 l0_1 a1).f0).length c269_0] 32 (0, 0)) (by (with_reducible repeat (first | refine aK ?_ _ | refine aN ?_ | refine aM ?_ _)); exact BK270.out) hb); have n2_ := aA.mk (aV (by repeat (first | (with_reducible first | exact HB.out | apply aE | apply aC | apply aD | refine aJ ?_ GE268.out | refine aJ ?_ GE270.out) | exact HB.out)) hb); clear BK268; clear BK270; clear HB; have BK268 := n0_; have BK270 := n1_; have HB := n2_; clear n0_ n1_ n2_; (try clear hb); have hcz50_0 : w49.cell? ⟨gb268, 0, none⟩ = some (.slice A0_0 l0_0.length c0_0) := (aG BK268.out 0).trans rfl; have hcz50_1 : w49.cell? ⟨gb268, 1, none⟩ = some (.slice (some ad269) l0_1.length c0_1) := (aG BK268.out 1).trans rfl; have hfz50_0 := aH BK268.out 0; have hfz50_1 := aH BK268.out 1; have p279 : 0 ≤ (a1 : Int) := lE (by first | (with_reducible assumption) | assumption); have q279 : a1 < (l0_0.length : Int) := lE (by first | (with_reducible assumption) | assumption); obtain ⟨ad279, e279, hx279_0⟩ := Kd.at_int HR0_0.out a1 p279 q279; cases e279; replace hx279_0 := (HB.out.cell (lD w _ hx279_0)).trans hx279_0; replace p279 := eq_true p279; replace q279 := eq_true q279; have p280 : 0 ≤ ((ji44) : Int) := lE (by first | (with_reducible assumption) | assumption); have q280 : (ji44) < (l0_0.length : Int) := lE (by first | (with_reducible assumption) | assumption); obtain ⟨ad280, e280, hx280_0⟩ := Kd.at_int HR0_0.out (ji44) p280 q280; obtain rfl : ad279 = ad280 := (by injection e280); replace hx280_0 := (HB.out.cell (lD w _ hx280_0)).trans hx280_0; replace p280 := eq_true p280; replace q280 := eq_true q280))
                     go_ret
                     exact ⟨by first | rfl | (simp [errW_none, errW_some] <;> rfl) | (simp only [← hji44]; first | rfl | (simp [errW_none, errW_some] <;> rfl)) | (simp [*, errW_none, errW_some] <;> rfl), by repeat (first | (with_reducible first | exact HB.out | apply aE | apply aC | apply aD | refine aJ ?_ GE268.out | refine aJ ?_ GE270.out) | exact HB.out)⟩
                    ·rw [if_neg c46] at H
                     have c46b0 : decide ((rd l0_0 (ji44)) ≤ t278) = false := decide_eq_false c46
                     clear c46
                     have H' := aA.mk H
                     clear H
                     have hnb51 := NB270_268.out
                     have hnc51 := NB268_270.out
                     have hcz52_0 : wr.cell? ⟨gb270, 0, none⟩ = some (.slice A269_0 ((rd_T32 l0_1 a1).f0).length c269_0) := (aG BK270.out 0).trans rfl
                     have hfz52_0 := aH BK270.out 0
                     have p275 : 0 ≤ (x6_2 : Int) := lE (by first | (with_reducible assumption) | assumption)
                     have q275 : x6_2 < (((rd_T32 l0_1 a1).f0).length : Int) := lE (by first | (with_reducible assumption) | assumption)
                     obtain ⟨ad275, A275_0, c275_0, e275, hx275_0, hl275_0, hi275_0⟩ := at_L2 HR269_0.out x6_2 p275 q275
                     cases e275
                     replace hx275_0 := (HB.out.cell (lD w _ hx275_0)).trans hx275_0
                     have HR275_0 := aA.mk hi275_0
                     have HC275_0 := aA.mk hl275_0
                     clear hi275_0 hl275_0
                     replace p275 := eq_true p275
                     replace q275 := eq_true q275
                     have p276 : 0 ≤ (x6_2 : Int) := lE (by first | (with_reducible assumption) | assumption)
                     have q276 : x6_2 < (((rd_T32 l0_1 a1).f0).length : Int) := lE (by first | (with_reducible assumption) | assumption)
                     obtain ⟨ad276, A276_0, c276_0, e276, hx276_0, hl276_0, hi276_0⟩ := at_L2 HR269_0.out x6_2 p276 q276
                     obtain rfl : ad275 = ad276 := (by injection e276)
                     replace hx276_0 := (HB.out.cell (lD w _ hx276_0)).trans hx276_0
                     have HR276_0 := aA.mk hi276_0
                     have HC276_0 := aA.mk hl276_0
                     clear hi276_0 hl276_0
                     replace p276 := eq_true p276
                     replace q276 := eq_true q276
                     have ea_ := Option.some.inj (hx275_0.symm.trans hx276_0)
                     injection ea_ with ea_ en_ ec_
                     subst ea_
                     subst ec_
                     clear en_
                     have p277 : 0 ≤ (x7_3 : Int) := lE (by first | (with_reducible assumption) | assumption)
                     have q277 : x7_3 < ((rd_L2 ((rd_T32 l0_1 a1).f0) x6_2).length : Int) := lE (by first | (with_reducible assumption) | assumption)
                     obtain ⟨ad277, e277, hx277_0, hx277_1, hx277_2, hx277_3, hx277_4⟩ := at_T27 HR276_0.out x7_3 p277 q277
                     cases e277
                     replace hx277_0 := (HB.out.cell (lD w _ hx277_0)).trans hx277_0
                     replace hx277_1 := (HB.out.cell (lD w _ hx277_1)).trans hx277_1
                     replace hx277_2 := (HB.out.cell (lD w _ hx277_2)).trans hx277_2
                     replace hx277_3 := (HB.out.cell (lD w _ hx277_3)).trans hx277_3
                     replace hx277_4 := (HB.out.cell (lD w _ hx277_4)).trans hx277_4
                     replace p277 := eq_true p277
                     replace q277 := eq_true q277
                     go_wp2_with (first | ((with_reducible refine bC (f := 96) rfl ?_); refine bL (some 52) rfl rfl Try.func96 (by kernel_rfl) rfl #[.agg #[.int .i64 ((rd_T27 (rd_L2 ((rd_T32 l0_1 a1).f0) x6_2) x7_3).f0), .int .i64 ((rd_T27 (rd_L2 ((rd_T32 l0_1 a1).f0) x6_2) x7_3).f1), .int .i64 ((rd_T27 (rd_L2 ((rd_T32 l0_1 a1).f0) x6_2) x7_3).f2), .int .i64 ((rd_T27 (rd_L2 ((rd_T32 l0_1 a1).f0) x6_2) x7_3).f3), .int .i64 ((rd_T27 (rd_L2 ((rd_T32 l0_1 a1).f0) x6_2) x7_3).f4)]] rfl (by (try simp only [List.map_toArray, List.map_cons, List.map_nil]); first | done | rfl | (simp only [List.length_drop, List.length_take]; rfl)) ?_; (with_reducible refine (spec_l6Spot.calls ((rd_T27 (rd_L2 ((rd_T32 l0_1 a1).f0) x6_2) x7_3).f0) ((rd_T27 (rd_L2 ((rd_T32 l0_1 a1).f0) x6_2) x7_3).f1) ((rd_T27 (rd_L2 ((rd_T32 l0_1 a1).f0) x6_2) x7_3).f2) ((rd_T27 (rd_L2 ((rd_T32 l0_1 a1).f0) x6_2) x7_3).f3) ((rd_T27 (rd_L2 ((rd_T32 l0_1 a1).f0) x6_2) x7_3).f4) t278 _ A35.out).mono ?_); rintro e w53 ⟨rfl, hb⟩; refine ⟨_, rfl, ?_⟩; have n0_ := aA.mk (aY (g := gb268) (o := .cells #[.slice A0_0 l0_0.length c0_0, .slice (some ad269) l0_1.length c0_1] 58 (0, 0)) (by (with_reducible repeat (first | refine aK ?_ _ | refine aN ?_ | refine aM ?_ _)); exact BK268.out) hb); have n1_ := aA.mk (aY (g := gb270) (o := .cells #[.slice (some ad275) ((rd_T32 l0_1 a1).f0).length c269_0] 32 (0, 0)) (by (with_reducible repeat (first | refine aK ?_ _ | refine aN ?_ | refine aM ?_ _)); exact BK270.out) hb); have n2_ := aA.mk (aV (by repeat (first | (with_reducible first | exact HB.out | apply aE | apply aC | apply aD | refine aJ ?_ GE268.out | refine aJ ?_ GE270.out) | exact HB.out)) hb); clear BK268; clear BK270; clear HB; have BK268 := n0_; have BK270 := n1_; have HB := n2_; clear n0_ n1_ n2_; (try clear hb); have hcz54_0 : w53.cell? ⟨gb268, 0, none⟩ = some (.slice A0_0 l0_0.length c0_0) := (aG BK268.out 0).trans rfl; have hcz54_1 : w53.cell? ⟨gb268, 1, none⟩ = some (.slice (some ad269) l0_1.length c0_1) := (aG BK268.out 1).trans rfl; have hfz54_0 := aH BK268.out 0; have hfz54_1 := aH BK268.out 1; have p279 : 0 ≤ (a1 : Int) := lE (by first | (with_reducible assumption) | assumption); have q279 : a1 < (l0_0.length : Int) := lE (by first | (with_reducible assumption) | assumption); obtain ⟨ad279, e279, hx279_0⟩ := Kd.at_int HR0_0.out a1 p279 q279; cases e279; replace hx279_0 := (HB.out.cell (lD w _ hx279_0)).trans hx279_0; replace p279 := eq_true p279; replace q279 := eq_true q279; have p280 : 0 ≤ ((ji44) : Int) := lE (by first | (with_reducible assumption) | assumption); have q280 : (ji44) < (l0_0.length : Int) := lE (by first | (with_reducible assumption) | assumption); obtain ⟨ad280, e280, hx280_0⟩ := Kd.at_int HR0_0.out (ji44) p280 q280; obtain rfl : ad279 = ad280 := (by injection e280); replace hx280_0 := (HB.out.cell (lD w _ hx280_0)).trans hx280_0; replace p280 := eq_true p280; replace q280 := eq_true q280))
                     go_roundg k3
                     case measure => have := HJ4.out; have := HK2.out; have := HK3.out; omega
                     case rel => exact ⟨(wrap64 (x7_3 + 1)), (by first | rfl | (simp; done) | (simp [*]; done)), H', ⟨by have := HJ4.out; have := HK2.out; have := HK3.out; omega⟩, ⟨by (with_reducible repeat (first | refine aK ?_ _ | refine aN ?_ | refine aM ?_ _)); exact BK268.out⟩, ⟨by (with_reducible repeat (first | refine aK ?_ _ | refine aN ?_ | refine aM ?_ _)); exact BK270.out⟩, ⟨by repeat (first | (with_reducible first | exact HB.out | apply aE | apply aC | apply aD | refine aJ ?_ GE268.out | refine aJ ?_ GE270.out) | exact HB.out)⟩⟩
                   ·rw [if_neg c45] at H
                    exact absurd H (by simp)
                  ·rw [if_neg c43] at H
                   have c43b0 : decide ((wrap64 (a1 + 1)) < (l0_0.length : Int)) = false := decide_eq_false c43
                   clear c43
                   have H' := aA.mk H
                   clear H
                   have hnb55 := NB270_268.out
                   have hnc55 := NB268_270.out
                   have hcz56_0 : wr.cell? ⟨gb270, 0, none⟩ = some (.slice A269_0 ((rd_T32 l0_1 a1).f0).length c269_0) := (aG BK270.out 0).trans rfl
                   have hfz56_0 := aH BK270.out 0
                   have p275 : 0 ≤ (x6_2 : Int) := lE (by first | (with_reducible assumption) | assumption)
                   have q275 : x6_2 < (((rd_T32 l0_1 a1).f0).length : Int) := lE (by first | (with_reducible assumption) | assumption)
                   obtain ⟨ad275, A275_0, c275_0, e275, hx275_0, hl275_0, hi275_0⟩ := at_L2 HR269_0.out x6_2 p275 q275
                   cases e275
                   replace hx275_0 := (HB.out.cell (lD w _ hx275_0)).trans hx275_0
                   have HR275_0 := aA.mk hi275_0
                   have HC275_0 := aA.mk hl275_0
                   clear hi275_0 hl275_0
                   replace p275 := eq_true p275
                   replace q275 := eq_true q275
                   have p276 : 0 ≤ (x6_2 : Int) := lE (by first | (with_reducible assumption) | assumption)
                   have q276 : x6_2 < (((rd_T32 l0_1 a1).f0).length : Int) := lE (by first | (with_reducible assumption) | assumption)
                   obtain ⟨ad276, A276_0, c276_0, e276, hx276_0, hl276_0, hi276_0⟩ := at_L2 HR269_0.out x6_2 p276 q276
                   obtain rfl : ad275 = ad276 := (by injection e276)
                   replace hx276_0 := (HB.out.cell (lD w _ hx276_0)).trans hx276_0
                   have HR276_0 := aA.mk hi276_0
                   have HC276_0 := aA.mk hl276_0
                   clear hi276_0 hl276_0
                   replace p276 := eq_true p276
                   replace q276 := eq_true q276
                   have ea_ := Option.some.inj (hx275_0.symm.trans hx276_0)
                   injection ea_ with ea_ en_ ec_
                   subst ea_
                   subst ec_
                   clear en_
                   have p277 : 0 ≤ (x7_3 : Int) := lE (by first | (with_reducible assumption) | assumption)
                   have q277 : x7_3 < ((rd_L2 ((rd_T32 l0_1 a1).f0) x6_2).length : Int) := lE (by first | (with_reducible assumption) | assumption)
                   obtain ⟨ad277, e277, hx277_0, hx277_1, hx277_2, hx277_3, hx277_4⟩ := at_T27 HR276_0.out x7_3 p277 q277
                   cases e277
                   replace hx277_0 := (HB.out.cell (lD w _ hx277_0)).trans hx277_0
                   replace hx277_1 := (HB.out.cell (lD w _ hx277_1)).trans hx277_1
                   replace hx277_2 := (HB.out.cell (lD w _ hx277_2)).trans hx277_2
                   replace hx277_3 := (HB.out.cell (lD w _ hx277_3)).trans hx277_3
                   replace hx277_4 := (HB.out.cell (lD w _ hx277_4)).trans hx277_4
                   replace p277 := eq_true p277
                   replace q277 := eq_true q277
                   go_wp2_with (first | ((with_reducible refine bC (f := 96) rfl ?_); refine bL (some 52) rfl rfl Try.func96 (by kernel_rfl) rfl #[.agg #[.int .i64 ((rd_T27 (rd_L2 ((rd_T32 l0_1 a1).f0) x6_2) x7_3).f0), .int .i64 ((rd_T27 (rd_L2 ((rd_T32 l0_1 a1).f0) x6_2) x7_3).f1), .int .i64 ((rd_T27 (rd_L2 ((rd_T32 l0_1 a1).f0) x6_2) x7_3).f2), .int .i64 ((rd_T27 (rd_L2 ((rd_T32 l0_1 a1).f0) x6_2) x7_3).f3), .int .i64 ((rd_T27 (rd_L2 ((rd_T32 l0_1 a1).f0) x6_2) x7_3).f4)]] rfl (by (try simp only [List.map_toArray, List.map_cons, List.map_nil]); first | done | rfl | (simp only [List.length_drop, List.length_take]; rfl)) ?_; (with_reducible refine (spec_l6Spot.calls ((rd_T27 (rd_L2 ((rd_T32 l0_1 a1).f0) x6_2) x7_3).f0) ((rd_T27 (rd_L2 ((rd_T32 l0_1 a1).f0) x6_2) x7_3).f1) ((rd_T27 (rd_L2 ((rd_T32 l0_1 a1).f0) x6_2) x7_3).f2) ((rd_T27 (rd_L2 ((rd_T32 l0_1 a1).f0) x6_2) x7_3).f3) ((rd_T27 (rd_L2 ((rd_T32 l0_1 a1).f0) x6_2) x7_3).f4) t278 _ A35.out).mono ?_); rintro e w57 ⟨rfl, hb⟩; refine ⟨_, rfl, ?_⟩; have n0_ := aA.mk (aY (g := gb268) (o := .cells #[.slice A0_0 l0_0.length c0_0, .slice (some ad269) l0_1.length c0_1] 58 (0, 0)) (by (with_reducible repeat (first | refine aK ?_ _ | refine aN ?_ | refine aM ?_ _)); exact BK268.out) hb); have n1_ := aA.mk (aY (g := gb270) (o := .cells #[.slice (some ad275) ((rd_T32 l0_1 a1).f0).length c269_0] 32 (0, 0)) (by (with_reducible repeat (first | refine aK ?_ _ | refine aN ?_ | refine aM ?_ _)); exact BK270.out) hb); have n2_ := aA.mk (aV (by repeat (first | (with_reducible first | exact HB.out | apply aE | apply aC | apply aD | refine aJ ?_ GE268.out | refine aJ ?_ GE270.out) | exact HB.out)) hb); clear BK268; clear BK270; clear HB; have BK268 := n0_; have BK270 := n1_; have HB := n2_; clear n0_ n1_ n2_; (try clear hb); have hcz58_0 : w57.cell? ⟨gb268, 0, none⟩ = some (.slice A0_0 l0_0.length c0_0) := (aG BK268.out 0).trans rfl; have hcz58_1 : w57.cell? ⟨gb268, 1, none⟩ = some (.slice (some ad269) l0_1.length c0_1) := (aG BK268.out 1).trans rfl; have hfz58_0 := aH BK268.out 0; have hfz58_1 := aH BK268.out 1; have p279 : 0 ≤ (a1 : Int) := lE (by first | (with_reducible assumption) | assumption); have q279 : a1 < (l0_0.length : Int) := lE (by first | (with_reducible assumption) | assumption); obtain ⟨ad279, e279, hx279_0⟩ := Kd.at_int HR0_0.out a1 p279 q279; cases e279; replace hx279_0 := (HB.out.cell (lD w _ hx279_0)).trans hx279_0; replace p279 := eq_true p279; replace q279 := eq_true q279))
                   go_roundg k3
                   case measure => have := HJ4.out; have := HK2.out; have := HK3.out; omega
                   case rel => exact ⟨(wrap64 (x7_3 + 1)), (by first | rfl | (simp; done) | (simp [*]; done)), H', ⟨by have := HJ4.out; have := HK2.out; have := HK3.out; omega⟩, ⟨by (with_reducible repeat (first | refine aK ?_ _ | refine aN ?_ | refine aM ?_ _)); exact BK268.out⟩, ⟨by (with_reducible repeat (first | refine aK ?_ _ | refine aN ?_ | refine aM ?_ _)); exact BK270.out⟩, ⟨by repeat (first | (with_reducible first | exact HB.out | apply aE | apply aC | apply aD | refine aJ ?_ GE268.out | refine aJ ?_ GE270.out) | exact HB.out)⟩⟩
                ·rw [if_neg c37] at H
                 exact absurd H (by simp)
               ·rw [if_neg c36] at H
                exact absurd H (by simp)
              ·rw [if_neg c34] at H
               exact absurd H (by simp)
             ·rw [if_neg c33] at H
              have c33b0 : decide (x7_3 < ((rd_L2 ((rd_T32 l0_1 a1).f0) x6_2).length : Int)) = false := decide_eq_false c33
              clear c33
              have H' := aA.mk H
              clear H
              have hnb59 := NB270_268.out
              have hnc59 := NB268_270.out
              have hcz60_0 : wr.cell? ⟨gb270, 0, none⟩ = some (.slice A269_0 ((rd_T32 l0_1 a1).f0).length c269_0) := (aG BK270.out 0).trans rfl
              have hfz60_0 := aH BK270.out 0
              have p275 : 0 ≤ (x6_2 : Int) := lE (by first | (with_reducible assumption) | assumption)
              have q275 : x6_2 < (((rd_T32 l0_1 a1).f0).length : Int) := lE (by first | (with_reducible assumption) | assumption)
              obtain ⟨ad275, A275_0, c275_0, e275, hx275_0, hl275_0, hi275_0⟩ := at_L2 HR269_0.out x6_2 p275 q275
              cases e275
              replace hx275_0 := (HB.out.cell (lD w _ hx275_0)).trans hx275_0
              have HR275_0 := aA.mk hi275_0
              have HC275_0 := aA.mk hl275_0
              clear hi275_0 hl275_0
              replace p275 := eq_true p275
              replace q275 := eq_true q275
              go_wp2
              go_roundg k3
              case measure => have := HJ4.out; have := HK2.out; have := HK3.out; omega
              case rel => exact ⟨(wrap64 (x6_2 + 1)), (by first | rfl | (simp; done) | (simp [*]; done)), H', ⟨by have := HJ4.out; have := HK2.out; have := HK3.out; omega⟩, ⟨by (with_reducible repeat (first | refine aK ?_ _ | refine aN ?_ | refine aM ?_ _)); exact BK268.out⟩, ⟨by (with_reducible repeat (first | refine aK ?_ _ | refine aN ?_ | refine aM ?_ _)); exact BK270.out⟩, ⟨by repeat (first | (with_reducible first | exact HB.out | apply aE | apply aC | apply aD | refine aJ ?_ GE268.out | refine aJ ?_ GE270.out) | exact HB.out)⟩⟩
            ·rw [if_neg c32] at H
             exact absurd H (by simp)
           ·rw [if_neg c31] at H
            exact absurd H (by simp)
        ·rw [if_neg c28] at H
         have c28b0 : decide (x6_2 < (((rd_T32 l0_1 a1).f0).length : Int)) = false := decide_eq_false c28
         clear c28
         obtain rfl := Option.some.inj H
         have hnb61 := NB270_268.out
         have hnc61 := NB268_270.out
         have hcz62_0 : wr.cell? ⟨gb270, 0, none⟩ = some (.slice A269_0 ((rd_T32 l0_1 a1).f0).length c269_0) := (aG BK270.out 0).trans rfl
         have hfz62_0 := aH BK270.out 0
         go_wp2
         go_ret
         exact ⟨by first | rfl | (simp [errW_none, errW_some] <;> rfl) | (simp [*, errW_none, errW_some] <;> rfl), by repeat (first | (with_reducible first | exact HB.out | apply aE | apply aC | apply aD | refine aJ ?_ GE268.out | refine aJ ?_ GE270.out) | exact HB.out)⟩
  ·rw [if_neg c4] at H
   exact absurd H (by simp)
 ·rw [if_neg c3] at H
  exact absurd H (by simp)
end Go.Proofs.Ythpfihklkcnckaa.PFnExactTreeOk

namespace Go.Proofs.Ythpfihklkcnckaa.PFnExactTreeOk
open Go.RowKit Go.Proofs.YthpfihklkcnckaaW.PrintWords Go.Proofs.YthpfihklkcnckaaW.PrintLast Go.Proofs.YthpfihklkcnckaaW.PrintMore
attribute [local go_sem] max2_int min2_int max_two min_two max_three min_three max_four min_four   -- for this text's walks alone
set_option linter.unusedVariables false
set_option linter.unusedSimpArgs false
mutual
def spec_TreeOk.j0 : Nat → Bool → List Int → List (S32) → Option (Bool)
 | 0, _, _, _ => none
 | k + 1, x24, x282000, x282001 => if x24 = true then (some false) else (spec_TreeOk.l0 k 0 x282000 x282001)
def spec_TreeOk.l0 : Nat → Int → List Int → List (S32) → Option (Bool)
 | 0, _, _, _ => none
 | k + 1, x3, x282000, x282001 => if x3 < (x282001.length : Int) then (if x3 > 0 then (if 0 ≤ (wrap64 (x3 - 1)) then (if (wrap64 (x3 - 1)) < (x282000.length : Int) then (if 0 ≤ x3 then (if x3 < (x282000.length : Int) then (if (rd x282000 (wrap64 (x3 - 1))) ≥ (rd x282000 x3) then (some false) else ((spec_l6Node.f k x282000 x282001 x3).bind fun t286 => (if t286 = true then (spec_TreeOk.l0 k (wrap64 (x3 + 1)) x282000 x282001) else (some false)))) else (none)) else (none)) else (none)) else (none)) else ((spec_l6Node.f k x282000 x282001 x3).bind fun t287 => (if t287 = true then (spec_TreeOk.l0 k (wrap64 (x3 + 1)) x282000 x282001) else (some false)))) else ((spec_TreeKeys.f k x282000 x282001).bind fun t288 => (some (decide ((t288.length : Int) ≤ 60))))
end
def spec_TreeOk.f (k : Nat) (l0_0 : List Int) (l0_1 : List (S32)) : Option (Bool) := (spec_l1In.f (l0_1.length : Int) 1 20).bind fun t282 => (if t282 = true then (if (l0_0.length : Int) = (l0_1.length : Int) then (if 0 < (l0_0.length : Int) then (spec_TreeOk.j0 k ((rd l0_0 0) != 0) l0_0 l0_1) else (none)) else (spec_TreeOk.j0 k true l0_0 l0_1)) else (spec_TreeOk.j0 k true l0_0 l0_1))
def spec_TreeOk.T6 : Bool × List (List Nat × List Nat) := (true, [([], []), ([0], [0]), ([1], [1]), ([2], [2]), ([3, 2], [2, 3]), ([2], [2]), ([5, 2], [2, 5]), ([4, 6, 2], [2, 4, 6]), ([7, 2], [2, 7]), ([2], [2]), ([9, 2], [2, 9]), ([2], [2]), ([10, 11, 2], [2, 10, 11]), ([12, 2], [2, 12]), ([8, 13, 2], [2, 8, 13]), ([2, 14], [2, 14]), ([15, 2], [15]), ([16], [16]), ([16], [16]), ([17, 18, 16, 16], [16, 17, 18]), ([19, 16], [16, 19]), ([16, 20], [16, 20])])
def spec_TreeOk.B6 : List Nat := [0, 1, 3, 7, 15, 7, 39, 127, 255, 7, 519, 7, 3591, 7687, 16383, 32767, 65535, 131071, 131071, 524287, 1048575, 2097151]
theorem spec_TreeOk.tab6 : rtab .any (opsOf Try.f51 6) = spec_TreeOk.T6 := by kernel_rfl
theorem spec_TreeOk.bits6 : waitsOk spec_TreeOk.T6.2 spec_TreeOk.B6 = true := by kernel_rfl
set_option maxHeartbeats 8000000 in
set_option maxRecDepth 100000 in
theorem spec_TreeOk.calls (k : Nat) (A0_0 : Option Addr) (c0_0 : Nat) (l0_0 : List Int) (A0_1 : Option Addr) (c0_1 : Nat) (l0_1 : List (S32)) (r : Bool) (w : World) (hr0_0 : Kd.C (Kd.int .i64) w A0_0 l0_0.length l0_0) (hc0_0 : l0_0.length ≤ c0_0) (hr0_1 : Kd.C k32 w A0_1 l0_1.length l0_1) (hc0_1 : l0_1.length ≤ c0_1) (h : spec_TreeOk.f k l0_0 l0_1 = some r) :
  Calls Try.prog 51 #[.agg #[.slice A0_0 l0_0.length c0_0, .slice A0_1 l0_1.length c0_1]] w fun e w' => e = .returned (.bool r) ∧ Below w.heap.size w w' := by
 have hu58 := Try.underlying58
 have HR0_0 := aA.mk hr0_0
 have HC0_0 := aA.mk hc0_0
 clear hr0_0 hc0_0
 have HR0_1 := aA.mk hr0_1
 have HC0_1 := aA.mk hc0_1
 clear hr0_1 hc0_1
 have HB := aA.mk (Below.refl w.heap.size w)
 have H : ((spec_l1In.f (l0_1.length : Int) 1 20).bind fun t282 => (if t282 = true then (if (l0_0.length : Int) = (l0_1.length : Int) then (if 0 < (l0_0.length : Int) then (spec_TreeOk.j0 k ((rd l0_0 0) != 0) l0_0 l0_1) else (none)) else (spec_TreeOk.j0 k true l0_0 l0_1)) else (spec_TreeOk.j0 k true l0_0 l0_1))) = some r := h
 clear h
 have HC2 := aA.mk H
 clear H
 go_enter Try.func51, Try.ntmps51
 go_upto_region 1 with (first | ((with_reducible refine bF (N := 1) rfl ?_); (try (refine gate_guard (by rfl) ?_; dsimp only)); refine bH ?hg (N := 1) ?hd (cs := #[.slice A0_0 l0_0.length c0_0, .slice A0_1 l0_1.length c0_1]) (t := 58) ?hr ?_; (case hd => rfl); (case hg => rfl); (case hr => first | (go_simp; done) | (go_simp; rfl)); intro gb281 hg w3 hbox hb; have n0_ := aA.mk (aV (by repeat (first | (with_reducible first | exact HB.out | apply aE | apply aC | apply aD) | exact HB.out)) hb); have n1_ := aA.mk (hbox); have n2_ := aA.mk ((by rw [hg]; exact (aQ (by repeat (first | (with_reducible first | exact HB.out | apply aE | apply aC | apply aD) | exact HB.out))) : w.heap.size ≤ gb281)); have n3_ := aA.mk ((by rw [hg]; exact (aQ (by repeat (first | (with_reducible first | exact HB.out | apply aE | apply aC | apply aD) | exact HB.out))) : w.heap.size ≤ gb281)); clear HB; have HB := n0_; have BK281 := n1_; have GW281 := n2_; have GE281 := n3_; clear n0_ n1_ n2_ n3_; clear hb hbox hg))
 (try simp only [Act.put, lA, lB, lC])
 go_cut [24] (fun v24 wc => ∃ (kq : Nat) (x24_1 : Bool), v24 = .bool x24_1 ∧ aA (spec_TreeOk.j0 kq x24_1 l0_0 l0_1 = some r) ∧ aA (kq ≤ k) ∧ aA (wc.heap[gb281]? = some (.cells #[(.slice A0_0 l0_0.length c0_0), (.slice A0_1 l0_1.length c0_1)] 58 (0, 0))) ∧ aA (Below w.heap.size w wc))
 case first =>
  have H := HC2.out
  clear HC2
  replace H := lF H
  obtain ⟨t282, A40, H⟩ := H
  replace H : (if t282 = true then (if (l0_0.length : Int) = (l0_1.length : Int) then (if 0 < (l0_0.length : Int) then (spec_TreeOk.j0 k ((rd l0_0 0) != 0) l0_0 l0_1) else (none)) else (spec_TreeOk.j0 k true l0_0 l0_1)) else (spec_TreeOk.j0 k true l0_0 l0_1)) = some r := H
  have A4 := aA.mk A40
  clear A40
  by_cases c5 : t282 = true
  ·subst c5
   have H1 : (if (l0_0.length : Int) = (l0_1.length : Int) then (if 0 < (l0_0.length : Int) then (spec_TreeOk.j0 k ((rd l0_0 0) != 0) l0_0 l0_1) else (none)) else (spec_TreeOk.j0 k true l0_0 l0_1)) = some r := by rw [if_pos rfl] at H; exact H
   clear H
   have H := H1
   clear H1
   by_cases c6 : (l0_0.length : Int) = (l0_1.length : Int)
   ·rw [if_pos c6] at H
    have c6b0 : ((l0_0.length : Int) == (l0_1.length : Int)) = true := beq_iff_eq.mpr c6
    have c6b1 : ((l0_0.length : Int) != (l0_1.length : Int)) = false := bne_eq_false_iff_eq.mpr c6
    have c6b2 : (l0_0.length == l0_1.length) = true := by first | simpa using c6 | (simp at c6 ⊢; omega)
    clear c6
    (first | rw [c6b0] | (simp only [aT, aU]; rw [c6b0]) | skip)
    by_cases c7 : 0 < (l0_0.length : Int)
    ·rw [if_pos c7] at H
     have c7b0 : decide (0 < (l0_0.length : Int)) = true := decide_eq_true c7
     have c7b1 : decide (0 < l0_0.length) = true := decide_eq_true (by omega)
     clear c7
     have H' := aA.mk H
     clear H
     have hcz8_0 : w3.cell? ⟨gb281, 0, none⟩ = some (.slice A0_0 l0_0.length c0_0) := (aG BK281.out 0).trans rfl
     have hcz8_1 : w3.cell? ⟨gb281, 1, none⟩ = some (.slice A0_1 l0_1.length c0_1) := (aG BK281.out 1).trans rfl
     have hfz8_0 := aH BK281.out 0
     have hfz8_1 := aH BK281.out 1
     go_wp2_with (first | ((with_reducible refine bC (f := 85) rfl ?_); refine bL (some 7) rfl rfl Try.func85 (by kernel_rfl) rfl #[.int .i64 (l0_1.length : Int), .int .i64 1, .int .i64 20] rfl (by (try simp only [List.map_toArray, List.map_cons, List.map_nil]); first | done | rfl | (simp only [List.length_drop, List.length_take]; rfl)) ?_; (with_reducible refine (spec_l1In.calls (l0_1.length : Int) 1 20 true _ A4.out).mono ?_); rintro e w' ⟨rfl, ⟨nd, rfl⟩⟩; refine ⟨_, rfl, ?_⟩; have p283 : 0 ≤ (0 : Int) := (by omega); have q283 : 0 < (l0_0.length : Int) := lE (by first | (with_reducible assumption) | assumption); obtain ⟨ad283, e283, hx283_0⟩ := Kd.at_int HR0_0.out 0 p283 q283; cases e283; have qi283 : (0 < l0_0.length) = True := eq_true (by omega); (try rw [show ((0 : Int)).toNat = 0 from rfl] at hx283_0); (try rw [Addr.add_zero'] at hx283_0); replace hx283_0 := (HB.out.cell (lD w _ hx283_0)).trans hx283_0; replace p283 := eq_true p283; replace q283 := eq_true q283))
     go_meet
     case rel => exact ⟨_, (((rd l0_0 0) != 0)), (by first | rfl | (simp; done) | (simp [*]; done)), H', ⟨by first | omega | exact Nat.le_refl _⟩, ⟨by (with_reducible repeat (first | refine aK ?_ _ | refine aN ?_ | refine aM ?_ _)); exact BK281.out⟩, ⟨by repeat (first | (with_reducible first | exact HB.out | apply aE | apply aC | apply aD | refine aJ ?_ GE281.out) | exact HB.out)⟩⟩
    ·rw [if_neg c7] at H
     exact absurd H (by simp)
   ·rw [if_neg c6] at H
    have c6b0 : ((l0_0.length : Int) == (l0_1.length : Int)) = false := beq_eq_false_iff_ne.mpr c6
    have c6b1 : ((l0_0.length : Int) != (l0_1.length : Int)) = true := bne_iff_ne.mpr c6
    have c6b2 : (l0_0.length == l0_1.length) = false := by first | simpa using c6 | (simp at c6 ⊢; omega)
    (first | rw [c6b0] | (simp only [aT, aU]; rw [c6b0]) | skip)
    have H' := aA.mk H
    clear H
    have hcz9_0 : w3.cell? ⟨gb281, 0, none⟩ = some (.slice A0_0 l0_0.length c0_0) := (aG BK281.out 0).trans rfl
    have hcz9_1 : w3.cell? ⟨gb281, 1, none⟩ = some (.slice A0_1 l0_1.length c0_1) := (aG BK281.out 1).trans rfl
    have hfz9_0 := aH BK281.out 0
    have hfz9_1 := aH BK281.out 1
    go_wp2_with (first | ((with_reducible refine bC (f := 85) rfl ?_); refine bL (some 7) rfl rfl Try.func85 (by kernel_rfl) rfl #[.int .i64 (l0_1.length : Int), .int .i64 1, .int .i64 20] rfl (by (try simp only [List.map_toArray, List.map_cons, List.map_nil]); first | done | rfl | (simp only [List.length_drop, List.length_take]; rfl)) ?_; (with_reducible refine (spec_l1In.calls (l0_1.length : Int) 1 20 true _ A4.out).mono ?_); rintro e w' ⟨rfl, ⟨nd, rfl⟩⟩; refine ⟨_, rfl, ?_⟩))
    go_meet
    case rel => exact ⟨_, (true), (by first | rfl | (simp; done) | (simp [*]; done)), H', ⟨by first | omega | exact Nat.le_refl _⟩, ⟨by (with_reducible repeat (first | refine aK ?_ _ | refine aN ?_ | refine aM ?_ _)); exact BK281.out⟩, ⟨by repeat (first | (with_reducible first | exact HB.out | apply aE | apply aC | apply aD | refine aJ ?_ GE281.out) | exact HB.out)⟩⟩
  ·replace c5 := Bool.eq_false_iff.mpr c5
   subst c5
   have H1 : (spec_TreeOk.j0 k true l0_0 l0_1) = some r := by rw [if_neg (show ¬ (false = true) by decide)] at H; exact H
   clear H
   have H := H1
   clear H1
   have H' := aA.mk H
   clear H
   have hcz10_0 : w3.cell? ⟨gb281, 0, none⟩ = some (.slice A0_0 l0_0.length c0_0) := (aG BK281.out 0).trans rfl
   have hcz10_1 : w3.cell? ⟨gb281, 1, none⟩ = some (.slice A0_1 l0_1.length c0_1) := (aG BK281.out 1).trans rfl
   have hfz10_0 := aH BK281.out 0
   have hfz10_1 := aH BK281.out 1
   go_wp2_with (first | ((with_reducible refine bC (f := 85) rfl ?_); refine bL (some 7) rfl rfl Try.func85 (by kernel_rfl) rfl #[.int .i64 (l0_1.length : Int), .int .i64 1, .int .i64 20] rfl (by (try simp only [List.map_toArray, List.map_cons, List.map_nil]); first | done | rfl | (simp only [List.length_drop, List.length_take]; rfl)) ?_; (with_reducible refine (spec_l1In.calls (l0_1.length : Int) 1 20 false _ A4.out).mono ?_); rintro e w' ⟨rfl, ⟨nd, rfl⟩⟩; refine ⟨_, rfl, ?_⟩))
   go_meet
   case rel => exact ⟨_, (true), (by first | rfl | (simp; done) | (simp [*]; done)), H', ⟨by first | omega | exact Nat.le_refl _⟩, ⟨by (with_reducible repeat (first | refine aK ?_ _ | refine aN ?_ | refine aM ?_ _)); exact BK281.out⟩, ⟨by repeat (first | (with_reducible first | exact HB.out | apply aE | apply aC | apply aD | refine aJ ?_ GE281.out) | exact HB.out)⟩⟩
 case rest =>
  clear HC2
  try clear p2
  try clear q2
  try clear hx2
  try clear qi2
  try clear c5
  try clear c6
  try clear c6b0
  try clear c6b1
  try clear c6b2
  try clear c7
  try clear c7b0
  try clear c7b1
  try clear c8
  try clear hcz10_0
  try clear hcz10_1
  try clear hcz8_0
  try clear hcz8_1
  try clear hcz9_0
  try clear hcz9_1
  try clear hfz10_0
  try clear hfz10_1
  try clear hfz8_0
  try clear hfz8_1
  try clear hfz9_0
  try clear hfz9_1
  try clear hx283_0
  try clear p283
  try clear q283
  obtain ⟨kq, x24_1, rfl, HA, HJ1, BK281, HB⟩ := hcut
  cases kq with
  | zero => exact absurd HA.out (by simp [spec_TreeOk.j0])
  | succ kj1 =>
   have H := HA.out
   clear HA
   simp only [spec_TreeOk.j0] at H
   by_cases c11 : x24_1 = true
   ·subst c11
    have H1 : (some false) = some r := by rw [if_pos rfl] at H; exact H
    clear H
    have H := H1
    clear H1
    obtain rfl := Option.some.inj H
    go_wp2
    go_ret
    exact ⟨by first | rfl | (simp [errW_none, errW_some] <;> rfl) | (simp [*, errW_none, errW_some] <;> rfl), by repeat (first | (with_reducible first | exact HB.out | apply aE | apply aC | apply aD | refine aJ ?_ GE281.out) | exact HB.out)⟩
   ·replace c11 := Bool.eq_false_iff.mpr c11
    subst c11
    have H1 : (spec_TreeOk.l0 kj1 0 l0_0 l0_1) = some r := by rw [if_neg (show ¬ (false = true) by decide)] at H; exact H
    clear H
    have H := H1
    clear H1
    have H' := aA.mk H
    clear H
    go_wp2
    go_loopg [3] kj1 (fun kq v3 w' => ∃ (x3_2 : Int), v3 = .int .i64 x3_2 ∧ aA (spec_TreeOk.l0 kq x3_2 l0_0 l0_1 = some r) ∧ aA (kq ≤ kj1) ∧ aA (w'.heap[gb281]? = some (.cells #[(.slice A0_0 l0_0.length c0_0), (.slice A0_1 l0_1.length c0_1)] 58 (0, 0))) ∧ aA (Below w.heap.size w w'))
    case atStart => exact ⟨(0), (by first | rfl | (simp; done) | (simp [*]; done)), H', ⟨Nat.le_refl _⟩, ⟨by (with_reducible repeat (first | refine aK ?_ _ | refine aN ?_ | refine aM ?_ _)); exact BK281.out⟩, ⟨by repeat (first | (with_reducible first | exact HB.out | apply aE | apply aC | apply aD | refine aJ ?_ GE281.out) | exact HB.out)⟩⟩
    case round =>
     clear H'
     try clear c1
     try clear p2
     try clear q2
     try clear hx2
     try clear qi2
     try clear c5
     try clear c6
     try clear c6b0
     try clear c6b1
     try clear c6b2
     try clear c7
     try clear c7b0
     try clear c7b1
     try clear c8
     try clear c11
     try clear hcz10_0
     try clear hcz10_1
     try clear hcz8_0
     try clear hcz8_1
     try clear hcz9_0
     try clear hcz9_1
     try clear hfz10_0
     try clear hfz10_1
     try clear hfz8_0
     try clear hfz8_1
     try clear hfz9_0
     try clear hfz9_1
     try clear hx283_0
     try clear p2
     try clear p283
     try clear q2
     try clear q283
     obtain ⟨x3_2, rfl, HA, HK2, BK281, HB⟩ := hrel
     cases gk with
     | zero => exact absurd HA.out (by simp [spec_TreeOk.l0])
     | succ k2 =>
      have H := HA.out
      clear HA
      simp only [spec_TreeOk.l0] at H
      by_cases c12 : x3_2 < (l0_1.length : Int)
      ·rw [if_pos c12] at H
       have c12b0 : decide (x3_2 < (l0_1.length : Int)) = true := decide_eq_true c12
       clear c12
       by_cases c13 : x3_2 > 0
       ·rw [if_pos c13] at H
        have c13b0 : decide (0 < x3_2) = true := decide_eq_true c13
        clear c13
        obtain ⟨ji14, hji14⟩ : ∃ j_ : Int, (wrap64 (x3_2 - 1)) = j_ := ⟨_, rfl⟩
        replace H : (if 0 ≤ (ji14) then (if (ji14) < (l0_0.length : Int) then (if 0 ≤ x3_2 then (if x3_2 < (l0_0.length : Int) then (if (rd l0_0 (ji14)) ≥ (rd l0_0 x3_2) then (some false) else ((spec_l6Node.f k2 l0_0 l0_1 x3_2).bind fun t286 => (if t286 = true then (spec_TreeOk.l0 k2 (wrap64 (x3_2 + 1)) l0_0 l0_1) else (some false)))) else (none)) else (none)) else (none)) else (none)) = some r := by first | (rw [hji14] at H; exact H) | (simp only [hji14] at H ⊢; exact H)
        have hji14w : (IntKind.i64.wrap (x3_2 - 1)) = ji14 := (aT _).trans hji14
        by_cases c15 : 0 ≤ (ji14)
        ·rw [if_pos c15] at H
         have c15b0 : decide (0 ≤ (ji14)) = true := decide_eq_true c15
         clear c15
         by_cases c16 : (ji14) < (l0_0.length : Int)
         ·rw [if_pos c16] at H
          have c16b0 : decide ((ji14) < (l0_0.length : Int)) = true := decide_eq_true c16
          clear c16
          by_cases c17 : 0 ≤ x3_2
          ·rw [if_pos c17] at H
           have c17b0 : decide (0 ≤ x3_2) = true := decide_eq_true c17
           clear c17
           by_cases c18 : x3_2 < (l0_0.length : Int)
           ·rw [if_pos c18] at H
            have c18b0 : decide (x3_2 < (l0_0.length : Int)) = true := decide_eq_true c18
            clear c18
            by_cases c19 : (rd l0_0 (ji14)) ≥ (rd l0_0 x3_2)
            ·rw [if_pos c19] at H
             have c19b0 : decide ((rd l0_0 x3_2) ≤ (rd l0_0 (ji14))) = true := decide_eq_true c19
             clear c19
             obtain rfl := Option.some.inj H
             have hcz20_0 : wr.cell? ⟨gb281, 0, none⟩ = some (.slice A0_0 l0_0.length c0_0) := (aG BK281.out 0).trans rfl
             have hcz20_1 : wr.cell? ⟨gb281, 1, none⟩ = some (.slice A0_1 l0_1.length c0_1) := (aG BK281.out 1).trans rfl
             have hfz20_0 := aH BK281.out 0
             have hfz20_1 := aH BK281.out 1
             try go_wp2
             have n0_ := aA.mk (aN BK281.out)
             have n1_ := aA.mk (aD HB.out)
             clear BK281
             clear HB
             have BK281 := n0_
             have HB := n1_
             clear n0_ n1_
             have p284 : 0 ≤ ((ji14) : Int) := lE (by first | (with_reducible assumption) | assumption)
             have q284 : (ji14) < (l0_0.length : Int) := lE (by first | (with_reducible assumption) | assumption)
             obtain ⟨ad284, e284, hx284_0⟩ := Kd.at_int HR0_0.out (ji14) p284 q284
             have hw284_0 := hx284_0
             cases e284
             replace hx284_0 := (HB.out.cell (lD w _ hx284_0)).trans hx284_0
             replace p284 := eq_true p284
             replace q284 := eq_true q284
             have p285 : 0 ≤ (x3_2 : Int) := lE (by first | (with_reducible assumption) | assumption)
             have q285 : x3_2 < (l0_0.length : Int) := lE (by first | (with_reducible assumption) | assumption)
             obtain ⟨ad285, e285, hx285_0⟩ := Kd.at_int HR0_0.out x3_2 p285 q285
             have hw285_0 := hx285_0
             obtain rfl : ad284 = ad285 := (by injection e285)
             replace hx285_0 := (HB.out.cell (lD w _ hx285_0)).trans hx285_0
             replace p285 := eq_true p285
             replace q285 := eq_true q285
             refine start_ (n := 22) (S := fun w' => w'.cell? ⟨gb281, 0, none⟩ = some (.slice (some ad284) l0_0.length c0_0) ∧ w'.cell? ⟨gb281, 1, none⟩ = some (.slice A0_1 l0_1.length c0_1) ∧ w'.cell? (ad284.add ((ji14)).toNat) = some (.int .i64 (rd l0_0 (ji14))) ∧ w'.cell? (ad284.add (x3_2).toNat) = some (.int .i64 (rd l0_0 x3_2))) (ds := []) #[false, false, false, false, false, false, false, false, false, false, false, false, false, false, false, false, false, false, false, false, false, false] (by kernel_rfl) rfl rfl ⟨(aG BK281.out 0).trans rfl, (aG BK281.out 1).trans rfl, ((HB.out.cell (lD w _ hw284_0)).trans hw284_0), ((HB.out.cell (lD w _ hw285_0)).trans hw285_0)⟩ (fun hHeld => ?_); refine with_tabW spec_TreeOk.tab6 spec_TreeOk.bits6 (fun HT_ HW_ => ?_)
             generalize wr.drew = w21 at BK281 HB hx284_0 hx285_0 hHeld ⊢
             refine aX (i := 0) (N := some 32) (v := ?_) (a' := ?_) #[true, false, false, false, false, false, false, false, false, false, false, false, false, false, false, false, false, false, false, false, false, false] rfl rfl (aW HT_.out (by kernel_rfl)) (fun _ _ _ h => h) (Or.inl ⟨by rfl, ?_⟩) ?_ ?_
             rotate_left
             ·intro w'
              go_simp
              with_reducible rfl
             rotate_left
             ·simp only [Act.put, lA, lB, lC, aT, aU]
              rfl
             refine aX (i := 1) (N := some 33) (v := ?_) (a' := ?_) #[true, true, false, false, false, false, false, false, false, false, false, false, false, false, false, false, false, false, false, false, false, false] rfl rfl (aW HT_.out (by kernel_rfl)) (fun _ _ _ h => h) (Or.inl ⟨by rfl, ?_⟩) ?_ ?_
             rotate_left
             ·intro w'
              go_simp
              with_reducible rfl
             rotate_left
             ·simp only [Act.put, lA, lB, lC, aT, aU]
              rfl
             refine aX (i := 2) (N := some 34) (v := ?_) (a' := ?_) #[true, true, true, false, false, false, false, false, false, false, false, false, false, false, false, false, false, false, false, false, false, false] rfl rfl (aW HT_.out (by kernel_rfl)) (fun _ _ _ h => h) (Or.inl ⟨by rfl, ?_⟩) ?_ ?_
             rotate_left
             ·intro w'
              go_simp
              with_reducible rfl
             rotate_left
             ·simp only [Act.put, lA, lB, lC, aT, aU]
              rfl
             refine aX (i := 3) (N := some 35) (v := ?_) (a' := ?_) #[true, true, true, true, false, false, false, false, false, false, false, false, false, false, false, false, false, false, false, false, false, false] rfl rfl (aW HT_.out (by kernel_rfl)) (fun _ _ _ h => h) (Or.inl ⟨by rfl, ?_⟩) ?_ ?_
             rotate_left
             ·intro w'
              go_simp
              with_reducible rfl
             rotate_left
             ·simp only [Act.put, lA, lB, lC, aT, aU]
              rfl
             refine aX (i := 5) (N := some 37) (v := ?_) (a' := ?_) #[true, true, true, true, false, true, false, false, false, false, false, false, false, false, false, false, false, false, false, false, false, false] rfl rfl (aW HT_.out (by kernel_rfl)) (fun _ _ _ h => h) (Or.inl ⟨by rfl, ?_⟩) ?_ ?_
             rotate_left
             ·intro w'
              go_simp
              with_reducible rfl
             rotate_left
             ·simp only [Act.put, lA, lB, lC, aT, aU]
              rfl
             refine aX (i := 6) (N := some 38) (v := ?_) (a' := ?_) #[true, true, true, true, false, true, true, false, false, false, false, false, false, false, false, false, false, false, false, false, false, false] rfl rfl (aW HT_.out (by kernel_rfl)) (fun _ _ _ h => h) (Or.inl ⟨by rfl, ?_⟩) ?_ ?_
             rotate_left
             ·intro w'
              go_simp
              with_reducible rfl
             rotate_left
             ·simp only [Act.put, lA, lB, lC, aT, aU]
              rfl
             refine aX (i := 9) (N := some 41) (v := ?_) (a' := ?_) #[true, true, true, true, false, true, true, false, false, true, false, false, false, false, false, false, false, false, false, false, false, false] rfl rfl (aW HT_.out (by kernel_rfl)) (fun _ _ _ h => h) (Or.inl ⟨by rfl, ?_⟩) ?_ ?_
             rotate_left
             ·intro w'
              go_simp
              with_reducible rfl
             rotate_left
             ·simp only [Act.put, lA, lB, lC, aT, aU]
              rfl
             refine aX (i := 11) (N := some 43) (v := ?_) (a' := ?_) #[true, true, true, true, false, true, true, false, false, true, false, true, false, false, false, false, false, false, false, false, false, false] rfl rfl (aW HT_.out (by kernel_rfl)) (fun _ _ _ h => h) (Or.inl ⟨by rfl, ?_⟩) ?_ ?_
             rotate_left
             ·intro w'
              go_simp
              with_reducible rfl
             rotate_left
             ·simp only [Act.put, lA, lB, lC, aT, aU]
              rfl
             refine take_ (i := 4) (N := some 36) (v := ?_) (a' := ?_) #[true, true, true, true, true, true, true, false, false, true, false, true, false, false, false, false, false, false, false, false, false, false] rfl rfl (bP HT_.out HW_.out (by kernel_rfl)) (fun _ _ _ h => h) (Or.inl ⟨by rfl, ?_⟩) hHeld ?_ ?_
             rotate_left
             ·rintro w' ⟨s0, s1, s2, s3⟩
              go_simp
              with_reducible rfl
             rotate_left
             ·simp only [Act.put, lA, lB, lC, aT, aU]
              rfl
             refine aX (i := 7) (N := some 39) (v := ?_) (a' := ?_) #[true, true, true, true, true, true, true, true, false, true, false, true, false, false, false, false, false, false, false, false, false, false] rfl rfl (aW HT_.out (by kernel_rfl)) (fun _ _ _ h => h) (Or.inl ⟨by rfl, ?_⟩) ?_ ?_
             rotate_left
             ·intro w'
              go_simp
              with_reducible rfl
             rotate_left
             ·simp only [Act.put, lA, lB, lC, aT, aU]
              rfl
             refine take_ (i := 8) (N := some 40) (v := ?_) (a' := ?_) #[true, true, true, true, true, true, true, true, true, true, false, true, false, false, false, false, false, false, false, false, false, false] rfl rfl (bP HT_.out HW_.out (by kernel_rfl)) (fun _ _ _ h => h) (Or.inl ⟨by rfl, ?_⟩) hHeld ?_ ?_
             rotate_left
             ·rintro w' ⟨s0, s1, s2, s3⟩
              go_simp
              with_reducible rfl
             rotate_left
             ·simp only [Act.put, lA, lB, lC, aT, aU]
              rfl
             refine take_ (i := 10) (N := some 42) (v := ?_) (a' := ?_) #[true, true, true, true, true, true, true, true, true, true, true, true, false, false, false, false, false, false, false, false, false, false] rfl rfl (bP HT_.out HW_.out (by kernel_rfl)) (fun _ _ _ h => h) (Or.inl ⟨by rfl, ?_⟩) hHeld ?_ ?_
             rotate_left
             ·rintro w' ⟨s0, s1, s2, s3⟩
              go_simp
              with_reducible rfl
             rotate_left
             ·simp only [Act.put, lA, lB, lC, aT, aU]
              rfl
             refine aX (i := 12) (N := some 44) (v := ?_) (a' := ?_) #[true, true, true, true, true, true, true, true, true, true, true, true, true, false, false, false, false, false, false, false, false, false] rfl rfl (aW HT_.out (by kernel_rfl)) (fun _ _ _ h => h) (Or.inl ⟨by rfl, ?_⟩) ?_ ?_
             rotate_left
             ·intro w'
              go_simp
              with_reducible rfl
             rotate_left
             ·simp only [Act.put, lA, lB, lC, aT, aU]
              rfl
             refine take_ (i := 13) (N := some 45) (v := ?_) (a' := ?_) #[true, true, true, true, true, true, true, true, true, true, true, true, true, true, false, false, false, false, false, false, false, false] rfl rfl (bP HT_.out HW_.out (by kernel_rfl)) (fun _ _ _ h => h) (Or.inl ⟨by rfl, ?_⟩) hHeld ?_ ?_
             rotate_left
             ·rintro w' ⟨s0, s1, s2, s3⟩
              go_simp
              with_reducible rfl
             rotate_left
             ·simp only [Act.put, lA, lB, lC, aT, aU]
              rfl
             refine aX (i := 14) (N := some 46) (v := ?_) (a' := ?_) #[true, true, true, true, true, true, true, true, true, true, true, true, true, true, true, false, false, false, false, false, false, false] rfl rfl (aW HT_.out (by kernel_rfl)) (fun _ _ _ h => h) (Or.inl ⟨by rfl, ?_⟩) ?_ ?_
             rotate_left
             ·intro w'
              go_simp
              with_reducible rfl
             rotate_left
             ·simp only [Act.put, lA, lB, lC, aT, aU]
              rfl
             refine aX (i := 15) (N := some 47) (v := ?_) (a' := ?_) #[true, true, true, true, true, true, true, true, true, true, true, true, true, true, true, true, false, false, false, false, false, false] rfl rfl (aW HT_.out (by kernel_rfl)) (fun _ _ _ h => h) (Or.inl ⟨by rfl, ?_⟩) ?_ ?_
             rotate_left
             ·intro w'
              go_simp
              with_reducible rfl
             rotate_left
             ·simp only [Act.put, lA, lB, lC, aT, aU]
              rfl
             refine aX (i := 16) (N := some 48) (v := ?_) (a' := ?_) #[true, true, true, true, true, true, true, true, true, true, true, true, true, true, true, true, true, false, false, false, false, false] rfl rfl (aW HT_.out (by kernel_rfl)) (fun _ _ _ h => h) (Or.inl ⟨by rfl, ?_⟩) ?_ ?_
             rotate_left
             ·intro w'
              go_simp
              with_reducible rfl
             rotate_left
             ·simp only [Act.put, lA, lB, lC, aT, aU]
              rfl
             refine aX (i := 17) (N := some 49) (v := undef) (a' := ?_) #[true, true, true, true, true, true, true, true, true, true, true, true, true, true, true, true, true, true, false, false, false, false] rfl rfl (aW HT_.out (by kernel_rfl)) (fun _ _ _ h => h) (Or.inr ⟨by rfl, rfl⟩) ?_ ?_
             rotate_left
             ·simp only [Act.put, lA, lB, lC, aT, aU]
              rfl
             refine aX (i := 18) (N := some 50) (v := undef) (a' := ?_) #[true, true, true, true, true, true, true, true, true, true, true, true, true, true, true, true, true, true, true, false, false, false] rfl rfl (aW HT_.out (by kernel_rfl)) (fun _ _ _ h => h) (Or.inr ⟨by rfl, rfl⟩) ?_ ?_
             rotate_left
             ·simp only [Act.put, lA, lB, lC, aT, aU]
              rfl
             refine aX (i := 19) (N := some 51) (v := undef) (a' := ?_) #[true, true, true, true, true, true, true, true, true, true, true, true, true, true, true, true, true, true, true, true, false, false] rfl rfl (aW HT_.out (by kernel_rfl)) (fun _ _ _ h => h) (Or.inr ⟨by rfl, rfl⟩) ?_ ?_
             rotate_left
             ·simp only [Act.put, lA, lB, lC, aT, aU]
              rfl
             refine aX (i := 20) (N := some 52) (v := undef) (a' := ?_) #[true, true, true, true, true, true, true, true, true, true, true, true, true, true, true, true, true, true, true, true, true, false] rfl rfl (aW HT_.out (by kernel_rfl)) (fun _ _ _ h => h) (Or.inr ⟨by rfl, rfl⟩) ?_ ?_
             rotate_left
             ·simp only [Act.put, lA, lB, lC, aT, aU]
              rfl
             refine aX (i := 21) (N := some 53) (v := ?_) (a' := ?_) #[true, true, true, true, true, true, true, true, true, true, true, true, true, true, true, true, true, true, true, true, true, true] rfl rfl (aW HT_.out (by kernel_rfl)) (fun _ _ _ h => h) (Or.inl ⟨by rfl, ?_⟩) ?_ ?_
             rotate_left
             ·intro w'
              go_simp
              with_reducible rfl
             rotate_left
             ·simp only [Act.put, lA, lB, lC, aT, aU]
              rfl
             refine done_ (done_of HT_.out (by kernel_rfl)) ?_
             try go_wp2
             go_ret
             exact ⟨by first | rfl | (simp [errW_none, errW_some] <;> rfl) | (simp only [← hji14]; first | rfl | (simp [errW_none, errW_some] <;> rfl)) | (simp [*, errW_none, errW_some] <;> rfl), by repeat (first | (with_reducible first | exact HB.out | apply aE | apply aC | apply aD | refine aJ ?_ GE281.out) | exact HB.out)⟩
            ·rw [if_neg c19] at H
             have c19b0 : decide ((rd l0_0 x3_2) ≤ (rd l0_0 (ji14))) = false := decide_eq_false c19
             clear c19
             replace H := lF H
             obtain ⟨t286, A220, H⟩ := H
             replace H : (if t286 = true then (spec_TreeOk.l0 k2 (wrap64 (x3_2 + 1)) l0_0 l0_1) else (some false)) = some r := H
             have A22 := aA.mk A220
             clear A220
             by_cases c23 : t286 = true
             ·subst c23
              have H1 : (spec_TreeOk.l0 k2 (wrap64 (x3_2 + 1)) l0_0 l0_1) = some r := by rw [if_pos rfl] at H; exact H
              clear H
              have H := H1
              clear H1
              have H' := aA.mk H
              clear H
              have hcz24_0 : wr.cell? ⟨gb281, 0, none⟩ = some (.slice A0_0 l0_0.length c0_0) := (aG BK281.out 0).trans rfl
              have hcz24_1 : wr.cell? ⟨gb281, 1, none⟩ = some (.slice A0_1 l0_1.length c0_1) := (aG BK281.out 1).trans rfl
              have hfz24_0 := aH BK281.out 0
              have hfz24_1 := aH BK281.out 1
              try go_wp2
              have n0_ := aA.mk (aN BK281.out)
              have n1_ := aA.mk (aD HB.out)
              clear BK281
              clear HB
              have BK281 := n0_
              have HB := n1_
              clear n0_ n1_
              have p284 : 0 ≤ ((ji14) : Int) := lE (by first | (with_reducible assumption) | assumption)
              have q284 : (ji14) < (l0_0.length : Int) := lE (by first | (with_reducible assumption) | assumption)
              obtain ⟨ad284, e284, hx284_0⟩ := Kd.at_int HR0_0.out (ji14) p284 q284
              have hw284_0 := hx284_0
              cases e284
              replace hx284_0 := (HB.out.cell (lD w _ hx284_0)).trans hx284_0
              replace p284 := eq_true p284
              replace q284 := eq_true q284
              have p285 : 0 ≤ (x3_2 : Int) := lE (by first | (with_reducible assumption) | assumption)
              have q285 : x3_2 < (l0_0.length : Int) := lE (by first | (with_reducible assumption) | assumption)
              obtain ⟨ad285, e285, hx285_0⟩ := Kd.at_int HR0_0.out x3_2 p285 q285
              have hw285_0 := hx285_0
              obtain rfl : ad284 = ad285 := (by injection e285)
              replace hx285_0 := (HB.out.cell (lD w _ hx285_0)).trans hx285_0
              replace p285 := eq_true p285
              replace q285 := eq_true q285
              refine start_ (n := 22) (S := fun w' => w'.cell? ⟨gb281, 0, none⟩ = some (.slice (some ad284) l0_0.length c0_0) ∧ w'.cell? ⟨gb281, 1, none⟩ = some (.slice A0_1 l0_1.length c0_1) ∧ w'.cell? (ad284.add ((ji14)).toNat) = some (.int .i64 (rd l0_0 (ji14))) ∧ w'.cell? (ad284.add (x3_2).toNat) = some (.int .i64 (rd l0_0 x3_2))) (ds := []) #[false, false, false, false, false, false, false, false, false, false, false, false, false, false, false, false, false, false, false, false, false, false] (by kernel_rfl) rfl rfl ⟨(aG BK281.out 0).trans rfl, (aG BK281.out 1).trans rfl, ((HB.out.cell (lD w _ hw284_0)).trans hw284_0), ((HB.out.cell (lD w _ hw285_0)).trans hw285_0)⟩ (fun hHeld => ?_); refine with_tabW spec_TreeOk.tab6 spec_TreeOk.bits6 (fun HT_ HW_ => ?_)
              generalize wr.drew = w25 at BK281 HB hx284_0 hx285_0 hHeld ⊢
              refine aX (i := 0) (N := some 32) (v := ?_) (a' := ?_) #[true, false, false, false, false, false, false, false, false, false, false, false, false, false, false, false, false, false, false, false, false, false] rfl rfl (aW HT_.out (by kernel_rfl)) (fun _ _ _ h => h) (Or.inl ⟨by rfl, ?_⟩) ?_ ?_
              rotate_left
              ·intro w'
               go_simp
               with_reducible rfl
              rotate_left
              ·simp only [Act.put, lA, lB, lC, aT, aU]
               rfl
              refine aX (i := 1) (N := some 33) (v := ?_) (a' := ?_) #[true, true, false, false, false, false, false, false, false, false, false, false, false, false, false, false, false, false, false, false, false, false] rfl rfl (aW HT_.out (by kernel_rfl)) (fun _ _ _ h => h) (Or.inl ⟨by rfl, ?_⟩) ?_ ?_
              rotate_left
              ·intro w'
               go_simp
               with_reducible rfl
              rotate_left
              ·simp only [Act.put, lA, lB, lC, aT, aU]
               rfl
              refine aX (i := 2) (N := some 34) (v := ?_) (a' := ?_) #[true, true, true, false, false, false, false, false, false, false, false, false, false, false, false, false, false, false, false, false, false, false] rfl rfl (aW HT_.out (by kernel_rfl)) (fun _ _ _ h => h) (Or.inl ⟨by rfl, ?_⟩) ?_ ?_
              rotate_left
              ·intro w'
               go_simp
               with_reducible rfl
              rotate_left
              ·simp only [Act.put, lA, lB, lC, aT, aU]
               rfl
              refine aX (i := 3) (N := some 35) (v := ?_) (a' := ?_) #[true, true, true, true, false, false, false, false, false, false, false, false, false, false, false, false, false, false, false, false, false, false] rfl rfl (aW HT_.out (by kernel_rfl)) (fun _ _ _ h => h) (Or.inl ⟨by rfl, ?_⟩) ?_ ?_
              rotate_left
              ·intro w'
               go_simp
               with_reducible rfl
              rotate_left
              ·simp only [Act.put, lA, lB, lC, aT, aU]
               rfl
              refine aX (i := 5) (N := some 37) (v := ?_) (a' := ?_) #[true, true, true, true, false, true, false, false, false, false, false, false, false, false, false, false, false, false, false, false, false, false] rfl rfl (aW HT_.out (by kernel_rfl)) (fun _ _ _ h => h) (Or.inl ⟨by rfl, ?_⟩) ?_ ?_
              rotate_left
              ·intro w'
               go_simp
               with_reducible rfl
              rotate_left
              ·simp only [Act.put, lA, lB, lC, aT, aU]
               rfl
              refine aX (i := 6) (N := some 38) (v := ?_) (a' := ?_) #[true, true, true, true, false, true, true, false, false, false, false, false, false, false, false, false, false, false, false, false, false, false] rfl rfl (aW HT_.out (by kernel_rfl)) (fun _ _ _ h => h) (Or.inl ⟨by rfl, ?_⟩) ?_ ?_
              rotate_left
              ·intro w'
               go_simp
               with_reducible rfl
              rotate_left
              ·simp only [Act.put, lA, lB, lC, aT, aU]
               rfl
              refine aX (i := 9) (N := some 41) (v := ?_) (a' := ?_) #[true, true, true, true, false, true, true, false, false, true, false, false, false, false, false, false, false, false, false, false, false, false] rfl rfl (aW HT_.out (by kernel_rfl)) (fun _ _ _ h => h) (Or.inl ⟨by rfl, ?_⟩) ?_ ?_
              rotate_left
              ·intro w'
               go_simp
               with_reducible rfl
              rotate_left
              ·simp only [Act.put, lA, lB, lC, aT, aU]
               rfl
              refine aX (i := 11) (N := some 43) (v := ?_) (a' := ?_) #[true, true, true, true, false, true, true, false, false, true, false, true, false, false, false, false, false, false, false, false, false, false] rfl rfl (aW HT_.out (by kernel_rfl)) (fun _ _ _ h => h) (Or.inl ⟨by rfl, ?_⟩) ?_ ?_
              rotate_left
              ·intro w'
               go_simp
               with_reducible rfl
              rotate_left
              ·simp only [Act.put, lA, lB, lC, aT, aU]
               rfl
              refine take_ (i := 4) (N := some 36) (v := ?_) (a' := ?_) #[true, true, true, true, true, true, true, false, false, true, false, true, false, false, false, false, false, false, false, false, false, false] rfl rfl (bP HT_.out HW_.out (by kernel_rfl)) (fun _ _ _ h => h) (Or.inl ⟨by rfl, ?_⟩) hHeld ?_ ?_
              rotate_left
              ·rintro w' ⟨s0, s1, s2, s3⟩
               go_simp
               with_reducible rfl
              rotate_left
              ·simp only [Act.put, lA, lB, lC, aT, aU]
               rfl
              refine aX (i := 7) (N := some 39) (v := ?_) (a' := ?_) #[true, true, true, true, true, true, true, true, false, true, false, true, false, false, false, false, false, false, false, false, false, false] rfl rfl (aW HT_.out (by kernel_rfl)) (fun _ _ _ h => h) (Or.inl ⟨by rfl, ?_⟩) ?_ ?_
              rotate_left
              ·intro w'
               go_simp
               with_reducible rfl
              rotate_left
              ·simp only [Act.put, lA, lB, lC, aT, aU]
               rfl
              refine take_ (i := 8) (N := some 40) (v := ?_) (a' := ?_) #[true, true, true, true, true, true, true, true, true, true, false, true, false, false, false, false, false, false, false, false, false, false] rfl rfl (bP HT_.out HW_.out (by kernel_rfl)) (fun _ _ _ h => h) (Or.inl ⟨by rfl, ?_⟩) hHeld ?_ ?_
              rotate_left
              ·rintro w' ⟨s0, s1, s2, s3⟩
               go_simp
               with_reducible rfl
              rotate_left
              ·simp only [Act.put, lA, lB, lC, aT, aU]
               rfl
              refine take_ (i := 10) (N := some 42) (v := ?_) (a' := ?_) #[true, true, true, true, true, true, true, true, true, true, true, true, false, false, false, false, false, false, false, false, false, false] rfl rfl (bP HT_.out HW_.out (by kernel_rfl)) (fun _ _ _ h => h) (Or.inl ⟨by rfl, ?_⟩) hHeld ?_ ?_
              rotate_left
              ·rintro w' ⟨s0, s1, s2, s3⟩
               go_simp
               with_reducible rfl
              rotate_left
              ·simp only [Act.put, lA, lB, lC, aT, aU]
               rfl
              refine aX (i := 12) (N := some 44) (v := ?_) (a' := ?_) #[true, true, true, true, true, true, true, true, true, true, true, true, true, false, false, false, false, false, false, false, false, false] rfl rfl (aW HT_.out (by kernel_rfl)) (fun _ _ _ h => h) (Or.inl ⟨by rfl, ?_⟩) ?_ ?_
              rotate_left
              ·intro w'
               go_simp
               with_reducible rfl
              rotate_left
              ·simp only [Act.put, lA, lB, lC, aT, aU]
               rfl
              refine take_ (i := 13) (N := some 45) (v := ?_) (a' := ?_) #[true, true, true, true, true, true, true, true, true, true, true, true, true, true, false, false, false, false, false, false, false, false] rfl rfl (bP HT_.out HW_.out (by kernel_rfl)) (fun _ _ _ h => h) (Or.inl ⟨by rfl, ?_⟩) hHeld ?_ ?_
              rotate_left
              ·rintro w' ⟨s0, s1, s2, s3⟩
               go_simp
               with_reducible rfl
              rotate_left
              ·simp only [Act.put, lA, lB, lC, aT, aU]
               rfl
              refine aX (i := 14) (N := some 46) (v := ?_) (a' := ?_) #[true, true, true, true, true, true, true, true, true, true, true, true, true, true, true, false, false, false, false, false, false, false] rfl rfl (aW HT_.out (by kernel_rfl)) (fun _ _ _ h => h) (Or.inl ⟨by rfl, ?_⟩) ?_ ?_
              rotate_left
              ·intro w'
               go_simp
               with_reducible rfl
              rotate_left
              ·simp only [Act.put, lA, lB, lC, aT, aU]
               rfl
              refine aX (i := 15) (N := some 47) (v := ?_) (a' := ?_) #[true, true, true, true, true, true, true, true, true, true, true, true, true, true, true, true, false, false, false, false, false, false] rfl rfl (aW HT_.out (by kernel_rfl)) (fun _ _ _ h => h) (Or.inl ⟨by rfl, ?_⟩) ?_ ?_
              rotate_left
              ·intro w'
               go_simp
               with_reducible rfl
              rotate_left
              ·simp only [Act.put, lA, lB, lC, aT, aU]
               rfl
              refine aX (i := 16) (N := some 48) (v := ?_) (a' := ?_) #[true, true, true, true, true, true, true, true, true, true, true, true, true, true, true, true, true, false, false, false, false, false] rfl rfl (aW HT_.out (by kernel_rfl)) (fun _ _ _ h => h) (Or.inl ⟨by rfl, ?_⟩) ?_ ?_
              rotate_left
              ·intro w'
               go_simp
               with_reducible rfl
              rotate_left
              ·simp only [Act.put, lA, lB, lC, aT, aU]
               rfl
              refine aX (i := 18) (N := some 50) (v := ?_) (a' := ?_) #[true, true, true, true, true, true, true, true, true, true, true, true, true, true, true, true, true, false, true, false, false, false] rfl rfl (aW HT_.out (by kernel_rfl)) (fun _ _ _ h => h) (Or.inl ⟨by rfl, ?_⟩) ?_ ?_
              rotate_left
              ·intro w'
               go_simp
               with_reducible rfl
              rotate_left
              ·simp only [Act.put, lA, lB, lC, aT, aU]
               rfl
              refine take_ (i := 17) (N := some 49) (v := ?_) (a' := ?_) #[true, true, true, true, true, true, true, true, true, true, true, true, true, true, true, true, true, true, true, false, false, false] rfl rfl (bP HT_.out HW_.out (by kernel_rfl)) (fun _ _ _ h => h) (Or.inl ⟨by rfl, ?_⟩) hHeld ?_ ?_
              rotate_left
              ·rintro w' ⟨s0, s1, s2, s3⟩
               go_simp
               with_reducible rfl
              rotate_left
              ·simp only [Act.put, lA, lB, lC, aT, aU]
               rfl
              refine one_ (i := 19) (N := some 51) #[true, true, true, true, true, true, true, true, true, true, true, true, true, true, true, true, true, true, true, true, false, false] rfl rfl (one_of HT_.out (by kernel_rfl)) (by decide) (fun K hK => ?_)
              refine goes_ Try.func87 (by kernel_rfl) rfl #[.agg #[.slice (some ad284) l0_0.length c0_0, .slice A0_1 l0_1.length c0_1], .int .i64 x3_2] (by rfl) rfl rfl (by (try simp only [List.map_toArray, List.map_cons, List.map_nil]); first | done | rfl | (simp only [List.length_drop, List.length_take]; rfl)) ?_
              with_reducible refine (spec_l6Node.calls k2 _ _ l0_0 _ _ l0_1 x3_2 true _ ?side1 ?side2 ?side3 ?side4 A22.out).mono ?_
              (case side1 => repeat (first | exact (Kd.bJ HR0_0.out HB.out) | (with_reducible refine Kd.bD ?_ _) | (with_reducible refine Kd.bE ?_ _) | (with_reducible refine Kd.bK ?_)))
              (case side2 => exact HC0_0.out)
              (case side3 => repeat (first | exact (Kd.bJ HR0_1.out HB.out) | (with_reducible refine Kd.bD ?_ _) | (with_reducible refine Kd.bE ?_ _) | (with_reducible refine Kd.bK ?_)))
              (case side4 => exact HC0_1.out)
              rintro e w26 ⟨rfl, hb⟩
              refine ⟨_, rfl, ?_⟩
              have n0_ := aA.mk (aY (g := gb281) (o := .cells #[.slice (some ad284) l0_0.length c0_0, .slice A0_1 l0_1.length c0_1] 58 (0, 0)) (by (with_reducible repeat (first | refine aK ?_ _ | refine aN ?_ | refine aM ?_ _)); exact BK281.out) hb)
              have n1_ := aA.mk (aV (by repeat (first | (with_reducible first | exact HB.out | apply aE | apply aC | apply aD | refine aJ ?_ GE281.out) | exact HB.out)) hb)
              clear BK281
              clear HB
              have BK281 := n0_
              have HB := n1_
              clear n0_ n1_
              (try clear hb)
              (try clear hb2)
              (try clear hk)
              (try clear hi)
              refine hK.out _ _ ⟨(aG BK281.out 0).trans rfl, (aG BK281.out 1).trans rfl, ((HB.out.cell (lD w _ hw284_0)).trans hw284_0), ((HB.out.cell (lD w _ hw285_0)).trans hw285_0)⟩ (fun hHeld => ?_)
              clear hK K
              refine norm_ (a' := ?_) ?_ ?_
              rotate_left
              ·show Act.put _ (some 51) _ = _
               simp only [Act.put, lA, lB, lC, aT, aU]
               rfl
              refine aX (i := 20) (N := some 52) (v := ?_) (a' := ?_) #[true, true, true, true, true, true, true, true, true, true, true, true, true, true, true, true, true, true, true, true, true, false] rfl rfl (aW HT_.out (by kernel_rfl)) (fun _ _ _ h => h) (Or.inl ⟨by rfl, ?_⟩) ?_ ?_
              rotate_left
              ·intro w'
               go_simp
               with_reducible rfl
              rotate_left
              ·simp only [Act.put, lA, lB, lC, aT, aU]
               rfl
              refine aX (i := 21) (N := some 53) (v := ?_) (a' := ?_) #[true, true, true, true, true, true, true, true, true, true, true, true, true, true, true, true, true, true, true, true, true, true] rfl rfl (aW HT_.out (by kernel_rfl)) (fun _ _ _ h => h) (Or.inl ⟨by rfl, ?_⟩) ?_ ?_
              rotate_left
              ·intro w'
               go_simp
               with_reducible rfl
              rotate_left
              ·simp only [Act.put, lA, lB, lC, aT, aU]
               rfl
              refine done_ (done_of HT_.out (by kernel_rfl)) ?_
              try go_wp2
              go_roundg k2
              case measure => have := HJ1.out; have := HK2.out; omega
              case rel => exact ⟨(wrap64 (x3_2 + 1)), (by first | rfl | (simp; done) | (simp [*]; done)), H', ⟨by have := HJ1.out; have := HK2.out; omega⟩, ⟨by (with_reducible repeat (first | refine aK ?_ _ | refine aN ?_ | refine aM ?_ _)); exact BK281.out⟩, ⟨by repeat (first | (with_reducible first | exact HB.out | apply aE | apply aC | apply aD | refine aJ ?_ GE281.out) | exact HB.out)⟩⟩
             ·replace c23 := Bool.eq_false_iff.mpr c23
              subst c23
              have H1 : (some false) = some r := by rw [if_neg (show ¬ (false = true) by decide)] at H; exact H
              clear H
              have H := H1
              clear H1
              obtain rfl := Option.some.inj H
              have hcz27_0 : wr.cell? ⟨gb281, 0, none⟩ = some (.slice A0_0 l0_0.length c0_0) := (aG BK281.out 0).trans rfl
              have hcz27_1 : wr.cell? ⟨gb281, 1, none⟩ = some (.slice A0_1 l0_1.length c0_1) := (aG BK281.out 1).trans rfl
              have hfz27_0 := aH BK281.out 0
              have hfz27_1 := aH BK281.out 1
              try go_wp2
              have n0_ := aA.mk (aN BK281.out)
              have n1_ := aA.mk (aD HB.out)
              clear BK281
              clear HB
              have BK281 := n0_
              have HB := n1_
              clear n0_ n1_
              have p284 : 0 ≤ ((ji14) : Int) := lE (by first | (with_reducible assumption) | assumption)
              have q284 : (ji14) < (l0_0.length : Int) := lE (by first | (with_reducible assumption) | assumption)
              obtain ⟨ad284, e284, hx284_0⟩ := Kd.at_int HR0_0.out (ji14) p284 q284
              have hw284_0 := hx284_0
              cases e284
              replace hx284_0 := (HB.out.cell (lD w _ hx284_0)).trans hx284_0
              replace p284 := eq_true p284
              replace q284 := eq_true q284
              have p285 : 0 ≤ (x3_2 : Int) := lE (by first | (with_reducible assumption) | assumption)
              have q285 : x3_2 < (l0_0.length : Int) := lE (by first | (with_reducible assumption) | assumption)
              obtain ⟨ad285, e285, hx285_0⟩ := Kd.at_int HR0_0.out x3_2 p285 q285
              have hw285_0 := hx285_0
              obtain rfl : ad284 = ad285 := (by injection e285)
              replace hx285_0 := (HB.out.cell (lD w _ hx285_0)).trans hx285_0
              replace p285 := eq_true p285
              replace q285 := eq_true q285
              refine start_ (n := 22) (S := fun w' => w'.cell? ⟨gb281, 0, none⟩ = some (.slice (some ad284) l0_0.length c0_0) ∧ w'.cell? ⟨gb281, 1, none⟩ = some (.slice A0_1 l0_1.length c0_1) ∧ w'.cell? (ad284.add ((ji14)).toNat) = some (.int .i64 (rd l0_0 (ji14))) ∧ w'.cell? (ad284.add (x3_2).toNat) = some (.int .i64 (rd l0_0 x3_2))) (ds := []) #[false, false, false, false, false, false, false, false, false, false, false, false, false, false, false, false, false, false, false, false, false, false] (by kernel_rfl) rfl rfl ⟨(aG BK281.out 0).trans rfl, (aG BK281.out 1).trans rfl, ((HB.out.cell (lD w _ hw284_0)).trans hw284_0), ((HB.out.cell (lD w _ hw285_0)).trans hw285_0)⟩ (fun hHeld => ?_); refine with_tabW spec_TreeOk.tab6 spec_TreeOk.bits6 (fun HT_ HW_ => ?_)
              generalize wr.drew = w28 at BK281 HB hx284_0 hx285_0 hHeld ⊢
              refine aX (i := 0) (N := some 32) (v := ?_) (a' := ?_) #[true, false, false, false, false, false, false, false, false, false, false, false, false, false, false, false, false, false, false, false, false, false] rfl rfl (aW HT_.out (by kernel_rfl)) (fun _ _ _ h => h) (Or.inl ⟨by rfl, ?_⟩) ?_ ?_
              rotate_left
              ·intro w'
               go_simp
               with_reducible rfl
              rotate_left
              ·simp only [Act.put, lA, lB, lC, aT, aU]
               rfl
              refine aX (i := 1) (N := some 33) (v := ?_) (a' := ?_) #[true, true, false, false, false, false, false, false, false, false, false, false, false, false, false, false, false, false, false, false, false, false] rfl rfl (aW HT_.out (by kernel_rfl)) (fun _ _ _ h => h) (Or.inl ⟨by rfl, ?_⟩) ?_ ?_
              rotate_left
              ·intro w'
               go_simp
               with_reducible rfl
              rotate_left
              ·simp only [Act.put, lA, lB, lC, aT, aU]
               rfl
              refine aX (i := 2) (N := some 34) (v := ?_) (a' := ?_) #[true, true, true, false, false, false, false, false, false, false, false, false, false, false, false, false, false, false, false, false, false, false] rfl rfl (aW HT_.out (by kernel_rfl)) (fun _ _ _ h => h) (Or.inl ⟨by rfl, ?_⟩) ?_ ?_
              rotate_left
              ·intro w'
               go_simp
               with_reducible rfl
              rotate_left
              ·simp only [Act.put, lA, lB, lC, aT, aU]
               rfl
              refine aX (i := 3) (N := some 35) (v := ?_) (a' := ?_) #[true, true, true, true, false, false, false, false, false, false, false, false, false, false, false, false, false, false, false, false, false, false] rfl rfl (aW HT_.out (by kernel_rfl)) (fun _ _ _ h => h) (Or.inl ⟨by rfl, ?_⟩) ?_ ?_
              rotate_left
              ·intro w'
               go_simp
               with_reducible rfl
              rotate_left
              ·simp only [Act.put, lA, lB, lC, aT, aU]
               rfl
              refine aX (i := 5) (N := some 37) (v := ?_) (a' := ?_) #[true, true, true, true, false, true, false, false, false, false, false, false, false, false, false, false, false, false, false, false, false, false] rfl rfl (aW HT_.out (by kernel_rfl)) (fun _ _ _ h => h) (Or.inl ⟨by rfl, ?_⟩) ?_ ?_
              rotate_left
              ·intro w'
               go_simp
               with_reducible rfl
              rotate_left
              ·simp only [Act.put, lA, lB, lC, aT, aU]
               rfl
              refine aX (i := 6) (N := some 38) (v := ?_) (a' := ?_) #[true, true, true, true, false, true, true, false, false, false, false, false, false, false, false, false, false, false, false, false, false, false] rfl rfl (aW HT_.out (by kernel_rfl)) (fun _ _ _ h => h) (Or.inl ⟨by rfl, ?_⟩) ?_ ?_
              rotate_left
              ·intro w'
               go_simp
               with_reducible rfl
              rotate_left
              ·simp only [Act.put, lA, lB, lC, aT, aU]
               rfl
              refine aX (i := 9) (N := some 41) (v := ?_) (a' := ?_) #[true, true, true, true, false, true, true, false, false, true, false, false, false, false, false, false, false, false, false, false, false, false] rfl rfl (aW HT_.out (by kernel_rfl)) (fun _ _ _ h => h) (Or.inl ⟨by rfl, ?_⟩) ?_ ?_
              rotate_left
              ·intro w'
               go_simp
               with_reducible rfl
              rotate_left
              ·simp only [Act.put, lA, lB, lC, aT, aU]
               rfl
              refine aX (i := 11) (N := some 43) (v := ?_) (a' := ?_) #[true, true, true, true, false, true, true, false, false, true, false, true, false, false, false, false, false, false, false, false, false, false] rfl rfl (aW HT_.out (by kernel_rfl)) (fun _ _ _ h => h) (Or.inl ⟨by rfl, ?_⟩) ?_ ?_
              rotate_left
              ·intro w'
               go_simp
               with_reducible rfl
              rotate_left
              ·simp only [Act.put, lA, lB, lC, aT, aU]
               rfl
              refine take_ (i := 4) (N := some 36) (v := ?_) (a' := ?_) #[true, true, true, true, true, true, true, false, false, true, false, true, false, false, false, false, false, false, false, false, false, false] rfl rfl (bP HT_.out HW_.out (by kernel_rfl)) (fun _ _ _ h => h) (Or.inl ⟨by rfl, ?_⟩) hHeld ?_ ?_
              rotate_left
              ·rintro w' ⟨s0, s1, s2, s3⟩
               go_simp
               with_reducible rfl
              rotate_left
              ·simp only [Act.put, lA, lB, lC, aT, aU]
               rfl
              refine aX (i := 7) (N := some 39) (v := ?_) (a' := ?_) #[true, true, true, true, true, true, true, true, false, true, false, true, false, false, false, false, false, false, false, false, false, false] rfl rfl (aW HT_.out (by kernel_rfl)) (fun _ _ _ h => h) (Or.inl ⟨by rfl, ?_⟩) ?_ ?_
              rotate_left
              ·intro w'
               go_simp
               with_reducible rfl
              rotate_left
              ·simp only [Act.put, lA, lB, lC, aT, aU]
               rfl
              refine take_ (i := 8) (N := some 40) (v := ?_) (a' := ?_) #[true, true, true, true, true, true, true, true, true, true, false, true, false, false, false, false, false, false, false, false, false, false] rfl rfl (bP HT_.out HW_.out (by kernel_rfl)) (fun _ _ _ h => h) (Or.inl ⟨by rfl, ?_⟩) hHeld ?_ ?_
              rotate_left
              ·rintro w' ⟨s0, s1, s2, s3⟩
               go_simp
               with_reducible rfl
              rotate_left
              ·simp only [Act.put, lA, lB, lC, aT, aU]
               rfl
              refine take_ (i := 10) (N := some 42) (v := ?_) (a' := ?_) #[true, true, true, true, true, true, true, true, true, true, true, true, false, false, false, false, false, false, false, false, false, false] rfl rfl (bP HT_.out HW_.out (by kernel_rfl)) (fun _ _ _ h => h) (Or.inl ⟨by rfl, ?_⟩) hHeld ?_ ?_
              rotate_left
              ·rintro w' ⟨s0, s1, s2, s3⟩
               go_simp
               with_reducible rfl
              rotate_left
              ·simp only [Act.put, lA, lB, lC, aT, aU]
               rfl
              refine aX (i := 12) (N := some 44) (v := ?_) (a' := ?_) #[true, true, true, true, true, true, true, true, true, true, true, true, true, false, false, false, false, false, false, false, false, false] rfl rfl (aW HT_.out (by kernel_rfl)) (fun _ _ _ h => h) (Or.inl ⟨by rfl, ?_⟩) ?_ ?_
              rotate_left
              ·intro w'
               go_simp
               with_reducible rfl
              rotate_left
              ·simp only [Act.put, lA, lB, lC, aT, aU]
               rfl
              refine take_ (i := 13) (N := some 45) (v := ?_) (a' := ?_) #[true, true, true, true, true, true, true, true, true, true, true, true, true, true, false, false, false, false, false, false, false, false] rfl rfl (bP HT_.out HW_.out (by kernel_rfl)) (fun _ _ _ h => h) (Or.inl ⟨by rfl, ?_⟩) hHeld ?_ ?_
              rotate_left
              ·rintro w' ⟨s0, s1, s2, s3⟩
               go_simp
               with_reducible rfl
              rotate_left
              ·simp only [Act.put, lA, lB, lC, aT, aU]
               rfl
              refine aX (i := 14) (N := some 46) (v := ?_) (a' := ?_) #[true, true, true, true, true, true, true, true, true, true, true, true, true, true, true, false, false, false, false, false, false, false] rfl rfl (aW HT_.out (by kernel_rfl)) (fun _ _ _ h => h) (Or.inl ⟨by rfl, ?_⟩) ?_ ?_
              rotate_left
              ·intro w'
               go_simp
               with_reducible rfl
              rotate_left
              ·simp only [Act.put, lA, lB, lC, aT, aU]
               rfl
              refine aX (i := 15) (N := some 47) (v := ?_) (a' := ?_) #[true, true, true, true, true, true, true, true, true, true, true, true, true, true, true, true, false, false, false, false, false, false] rfl rfl (aW HT_.out (by kernel_rfl)) (fun _ _ _ h => h) (Or.inl ⟨by rfl, ?_⟩) ?_ ?_
              rotate_left
              ·intro w'
               go_simp
               with_reducible rfl
              rotate_left
              ·simp only [Act.put, lA, lB, lC, aT, aU]
               rfl
              refine aX (i := 16) (N := some 48) (v := ?_) (a' := ?_) #[true, true, true, true, true, true, true, true, true, true, true, true, true, true, true, true, true, false, false, false, false, false] rfl rfl (aW HT_.out (by kernel_rfl)) (fun _ _ _ h => h) (Or.inl ⟨by rfl, ?_⟩) ?_ ?_
              rotate_left
              ·intro w'
               go_simp
               with_reducible rfl
              rotate_left
              ·simp only [Act.put, lA, lB, lC, aT, aU]
               rfl
              refine aX (i := 18) (N := some 50) (v := ?_) (a' := ?_) #[true, true, true, true, true, true, true, true, true, true, true, true, true, true, true, true, true, false, true, false, false, false] rfl rfl (aW HT_.out (by kernel_rfl)) (fun _ _ _ h => h) (Or.inl ⟨by rfl, ?_⟩) ?_ ?_
              rotate_left
              ·intro w'
               go_simp
               with_reducible rfl
              rotate_left
              ·simp only [Act.put, lA, lB, lC, aT, aU]
               rfl
              refine take_ (i := 17) (N := some 49) (v := ?_) (a' := ?_) #[true, true, true, true, true, true, true, true, true, true, true, true, true, true, true, true, true, true, true, false, false, false] rfl rfl (bP HT_.out HW_.out (by kernel_rfl)) (fun _ _ _ h => h) (Or.inl ⟨by rfl, ?_⟩) hHeld ?_ ?_
              rotate_left
              ·rintro w' ⟨s0, s1, s2, s3⟩
               go_simp
               with_reducible rfl
              rotate_left
              ·simp only [Act.put, lA, lB, lC, aT, aU]
               rfl
              refine one_ (i := 19) (N := some 51) #[true, true, true, true, true, true, true, true, true, true, true, true, true, true, true, true, true, true, true, true, false, false] rfl rfl (one_of HT_.out (by kernel_rfl)) (by decide) (fun K hK => ?_)
              refine goes_ Try.func87 (by kernel_rfl) rfl #[.agg #[.slice (some ad284) l0_0.length c0_0, .slice A0_1 l0_1.length c0_1], .int .i64 x3_2] (by rfl) rfl rfl (by (try simp only [List.map_toArray, List.map_cons, List.map_nil]); first | done | rfl | (simp only [List.length_drop, List.length_take]; rfl)) ?_
              with_reducible refine (spec_l6Node.calls k2 _ _ l0_0 _ _ l0_1 x3_2 false _ ?side1 ?side2 ?side3 ?side4 A22.out).mono ?_
              (case side1 => repeat (first | exact (Kd.bJ HR0_0.out HB.out) | (with_reducible refine Kd.bD ?_ _) | (with_reducible refine Kd.bE ?_ _) | (with_reducible refine Kd.bK ?_)))
              (case side2 => exact HC0_0.out)
              (case side3 => repeat (first | exact (Kd.bJ HR0_1.out HB.out) | (with_reducible refine Kd.bD ?_ _) | (with_reducible refine Kd.bE ?_ _) | (with_reducible refine Kd.bK ?_)))
              (case side4 => exact HC0_1.out)
              rintro e w29 ⟨rfl, hb⟩
              refine ⟨_, rfl, ?_⟩
              have n0_ := aA.mk (aY (g := gb281) (o := .cells #[.slice (some ad284) l0_0.length c0_0, .slice A0_1 l0_1.length c0_1] 58 (0, 0)) (by (with_reducible repeat (first | refine aK ?_ _ | refine aN ?_ | refine aM ?_ _)); exact BK281.out) hb)
              have n1_ := aA.mk (aV (by repeat (first | (with_reducible first | exact HB.out | apply aE | apply aC | apply aD | refine aJ ?_ GE281.out) | exact HB.out)) hb)
              clear BK281
              clear HB
              have BK281 := n0_
              have HB := n1_
              clear n0_ n1_
              (try clear hb)
              (try clear hb2)
              (try clear hk)
              (try clear hi)
              refine hK.out _ _ ⟨(aG BK281.out 0).trans rfl, (aG BK281.out 1).trans rfl, ((HB.out.cell (lD w _ hw284_0)).trans hw284_0), ((HB.out.cell (lD w _ hw285_0)).trans hw285_0)⟩ (fun hHeld => ?_)
              clear hK K
              refine norm_ (a' := ?_) ?_ ?_
              rotate_left
              ·show Act.put _ (some 51) _ = _
               simp only [Act.put, lA, lB, lC, aT, aU]
               rfl
              refine aX (i := 20) (N := some 52) (v := ?_) (a' := ?_) #[true, true, true, true, true, true, true, true, true, true, true, true, true, true, true, true, true, true, true, true, true, false] rfl rfl (aW HT_.out (by kernel_rfl)) (fun _ _ _ h => h) (Or.inl ⟨by rfl, ?_⟩) ?_ ?_
              rotate_left
              ·intro w'
               go_simp
               with_reducible rfl
              rotate_left
              ·simp only [Act.put, lA, lB, lC, aT, aU]
               rfl
              refine aX (i := 21) (N := some 53) (v := ?_) (a' := ?_) #[true, true, true, true, true, true, true, true, true, true, true, true, true, true, true, true, true, true, true, true, true, true] rfl rfl (aW HT_.out (by kernel_rfl)) (fun _ _ _ h => h) (Or.inl ⟨by rfl, ?_⟩) ?_ ?_
              rotate_left
              ·intro w'
               go_simp
               with_reducible rfl
              rotate_left
              ·simp only [Act.put, lA, lB, lC, aT, aU]
               rfl
              refine done_ (done_of HT_.out (by kernel_rfl)) ?_
              try go_wp2
              go_ret
              exact ⟨by first | rfl | (simp [errW_none, errW_some] <;> rfl) | (simp only [← hji14]; first | rfl | (simp [errW_none, errW_some] <;> rfl)) | (simp [*, errW_none, errW_some] <;> rfl), by repeat (first | (with_reducible first | exact HB.out | apply aE | apply aC | apply aD | refine aJ ?_ GE281.out) | exact HB.out)⟩
           ·rw [if_neg c18] at H
            exact absurd H (by simp)
          ·rw [if_neg c17] at H
           exact absurd H (by simp)
         ·rw [if_neg c16] at H
          exact absurd H (by simp)
        ·rw [if_neg c15] at H
         exact absurd H (by simp)
       ·rw [if_neg c13] at H
        have c13b0 : decide (0 < x3_2) = false := decide_eq_false c13
        clear c13
        replace H := lF H
        obtain ⟨t287, A300, H⟩ := H
        replace H : (if t287 = true then (spec_TreeOk.l0 k2 (wrap64 (x3_2 + 1)) l0_0 l0_1) else (some false)) = some r := H
        have A30 := aA.mk A300
        clear A300
        by_cases c31 : t287 = true
        ·subst c31
         have H1 : (spec_TreeOk.l0 k2 (wrap64 (x3_2 + 1)) l0_0 l0_1) = some r := by rw [if_pos rfl] at H; exact H
         clear H
         have H := H1
         clear H1
         have H' := aA.mk H
         clear H
         have hcz32_0 : wr.cell? ⟨gb281, 0, none⟩ = some (.slice A0_0 l0_0.length c0_0) := (aG BK281.out 0).trans rfl
         have hcz32_1 : wr.cell? ⟨gb281, 1, none⟩ = some (.slice A0_1 l0_1.length c0_1) := (aG BK281.out 1).trans rfl
         have hfz32_0 := aH BK281.out 0
         have hfz32_1 := aH BK281.out 1
         try go_wp2
         have n0_ := aA.mk (aN BK281.out)
         have n1_ := aA.mk (aD HB.out)
         clear BK281
         clear HB
         have BK281 := n0_
         have HB := n1_
         clear n0_ n1_
         refine start_ (n := 22) (S := fun w' => w'.cell? ⟨gb281, 0, none⟩ = some (.slice A0_0 l0_0.length c0_0) ∧ w'.cell? ⟨gb281, 1, none⟩ = some (.slice A0_1 l0_1.length c0_1)) (ds := []) #[false, false, false, false, false, false, false, false, false, false, false, false, false, false, false, false, false, false, false, false, false, false] (by kernel_rfl) rfl rfl ⟨(aG BK281.out 0).trans rfl, (aG BK281.out 1).trans rfl⟩ (fun hHeld => ?_); refine with_tabW spec_TreeOk.tab6 spec_TreeOk.bits6 (fun HT_ HW_ => ?_)
         generalize wr.drew = w33 at BK281 HB hHeld ⊢
         refine aX (i := 0) (N := some 32) (v := ?_) (a' := ?_) #[true, false, false, false, false, false, false, false, false, false, false, false, false, false, false, false, false, false, false, false, false, false] rfl rfl (aW HT_.out (by kernel_rfl)) (fun _ _ _ h => h) (Or.inl ⟨by rfl, ?_⟩) ?_ ?_
         rotate_left
         ·intro w'
          go_simp
          with_reducible rfl
         rotate_left
         ·simp only [Act.put, lA, lB, lC, aT, aU]
          rfl
         refine aX (i := 1) (N := some 33) (v := ?_) (a' := ?_) #[true, true, false, false, false, false, false, false, false, false, false, false, false, false, false, false, false, false, false, false, false, false] rfl rfl (aW HT_.out (by kernel_rfl)) (fun _ _ _ h => h) (Or.inl ⟨by rfl, ?_⟩) ?_ ?_
         rotate_left
         ·intro w'
          go_simp
          with_reducible rfl
         rotate_left
         ·simp only [Act.put, lA, lB, lC, aT, aU]
          rfl
         refine aX (i := 2) (N := some 34) (v := ?_) (a' := ?_) #[true, true, true, false, false, false, false, false, false, false, false, false, false, false, false, false, false, false, false, false, false, false] rfl rfl (aW HT_.out (by kernel_rfl)) (fun _ _ _ h => h) (Or.inl ⟨by rfl, ?_⟩) ?_ ?_
         rotate_left
         ·intro w'
          go_simp
          with_reducible rfl
         rotate_left
         ·simp only [Act.put, lA, lB, lC, aT, aU]
          rfl
         refine aX (i := 3) (N := some 35) (v := undef) (a' := ?_) #[true, true, true, true, false, false, false, false, false, false, false, false, false, false, false, false, false, false, false, false, false, false] rfl rfl (aW HT_.out (by kernel_rfl)) (fun _ _ _ h => h) (Or.inr ⟨by rfl, rfl⟩) ?_ ?_
         rotate_left
         ·simp only [Act.put, lA, lB, lC, aT, aU]
          rfl
         refine aX (i := 4) (N := some 36) (v := undef) (a' := ?_) #[true, true, true, true, true, false, false, false, false, false, false, false, false, false, false, false, false, false, false, false, false, false] rfl rfl (aW HT_.out (by kernel_rfl)) (fun _ _ _ h => h) (Or.inr ⟨by rfl, rfl⟩) ?_ ?_
         rotate_left
         ·simp only [Act.put, lA, lB, lC, aT, aU]
          rfl
         refine aX (i := 5) (N := some 37) (v := undef) (a' := ?_) #[true, true, true, true, true, true, false, false, false, false, false, false, false, false, false, false, false, false, false, false, false, false] rfl rfl (aW HT_.out (by kernel_rfl)) (fun _ _ _ h => h) (Or.inr ⟨by rfl, rfl⟩) ?_ ?_
         rotate_left
         ·simp only [Act.put, lA, lB, lC, aT, aU]
          rfl
         refine aX (i := 6) (N := some 38) (v := undef) (a' := ?_) #[true, true, true, true, true, true, true, false, false, false, false, false, false, false, false, false, false, false, false, false, false, false] rfl rfl (aW HT_.out (by kernel_rfl)) (fun _ _ _ h => h) (Or.inr ⟨by rfl, rfl⟩) ?_ ?_
         rotate_left
         ·simp only [Act.put, lA, lB, lC, aT, aU]
          rfl
         refine aX (i := 7) (N := some 39) (v := undef) (a' := ?_) #[true, true, true, true, true, true, true, true, false, false, false, false, false, false, false, false, false, false, false, false, false, false] rfl rfl (aW HT_.out (by kernel_rfl)) (fun _ _ _ h => h) (Or.inr ⟨by rfl, rfl⟩) ?_ ?_
         rotate_left
         ·simp only [Act.put, lA, lB, lC, aT, aU]
          rfl
         refine aX (i := 8) (N := some 40) (v := undef) (a' := ?_) #[true, true, true, true, true, true, true, true, true, false, false, false, false, false, false, false, false, false, false, false, false, false] rfl rfl (aW HT_.out (by kernel_rfl)) (fun _ _ _ h => h) (Or.inr ⟨by rfl, rfl⟩) ?_ ?_
         rotate_left
         ·simp only [Act.put, lA, lB, lC, aT, aU]
          rfl
         refine aX (i := 9) (N := some 41) (v := undef) (a' := ?_) #[true, true, true, true, true, true, true, true, true, true, false, false, false, false, false, false, false, false, false, false, false, false] rfl rfl (aW HT_.out (by kernel_rfl)) (fun _ _ _ h => h) (Or.inr ⟨by rfl, rfl⟩) ?_ ?_
         rotate_left
         ·simp only [Act.put, lA, lB, lC, aT, aU]
          rfl
         refine aX (i := 10) (N := some 42) (v := undef) (a' := ?_) #[true, true, true, true, true, true, true, true, true, true, true, false, false, false, false, false, false, false, false, false, false, false] rfl rfl (aW HT_.out (by kernel_rfl)) (fun _ _ _ h => h) (Or.inr ⟨by rfl, rfl⟩) ?_ ?_
         rotate_left
         ·simp only [Act.put, lA, lB, lC, aT, aU]
          rfl
         refine aX (i := 11) (N := some 43) (v := undef) (a' := ?_) #[true, true, true, true, true, true, true, true, true, true, true, true, false, false, false, false, false, false, false, false, false, false] rfl rfl (aW HT_.out (by kernel_rfl)) (fun _ _ _ h => h) (Or.inr ⟨by rfl, rfl⟩) ?_ ?_
         rotate_left
         ·simp only [Act.put, lA, lB, lC, aT, aU]
          rfl
         refine aX (i := 12) (N := some 44) (v := undef) (a' := ?_) #[true, true, true, true, true, true, true, true, true, true, true, true, true, false, false, false, false, false, false, false, false, false] rfl rfl (aW HT_.out (by kernel_rfl)) (fun _ _ _ h => h) (Or.inr ⟨by rfl, rfl⟩) ?_ ?_
         rotate_left
         ·simp only [Act.put, lA, lB, lC, aT, aU]
          rfl
         refine aX (i := 13) (N := some 45) (v := undef) (a' := ?_) #[true, true, true, true, true, true, true, true, true, true, true, true, true, true, false, false, false, false, false, false, false, false] rfl rfl (aW HT_.out (by kernel_rfl)) (fun _ _ _ h => h) (Or.inr ⟨by rfl, rfl⟩) ?_ ?_
         rotate_left
         ·simp only [Act.put, lA, lB, lC, aT, aU]
          rfl
         refine aX (i := 14) (N := some 46) (v := undef) (a' := ?_) #[true, true, true, true, true, true, true, true, true, true, true, true, true, true, true, false, false, false, false, false, false, false] rfl rfl (aW HT_.out (by kernel_rfl)) (fun _ _ _ h => h) (Or.inr ⟨by rfl, rfl⟩) ?_ ?_
         rotate_left
         ·simp only [Act.put, lA, lB, lC, aT, aU]
          rfl
         refine aX (i := 15) (N := some 47) (v := ?_) (a' := ?_) #[true, true, true, true, true, true, true, true, true, true, true, true, true, true, true, true, false, false, false, false, false, false] rfl rfl (aW HT_.out (by kernel_rfl)) (fun _ _ _ h => h) (Or.inl ⟨by rfl, ?_⟩) ?_ ?_
         rotate_left
         ·intro w'
          go_simp
          with_reducible rfl
         rotate_left
         ·simp only [Act.put, lA, lB, lC, aT, aU]
          rfl
         refine aX (i := 16) (N := some 48) (v := ?_) (a' := ?_) #[true, true, true, true, true, true, true, true, true, true, true, true, true, true, true, true, true, false, false, false, false, false] rfl rfl (aW HT_.out (by kernel_rfl)) (fun _ _ _ h => h) (Or.inl ⟨by rfl, ?_⟩) ?_ ?_
         rotate_left
         ·intro w'
          go_simp
          with_reducible rfl
         rotate_left
         ·simp only [Act.put, lA, lB, lC, aT, aU]
          rfl
         refine aX (i := 18) (N := some 50) (v := ?_) (a' := ?_) #[true, true, true, true, true, true, true, true, true, true, true, true, true, true, true, true, true, false, true, false, false, false] rfl rfl (aW HT_.out (by kernel_rfl)) (fun _ _ _ h => h) (Or.inl ⟨by rfl, ?_⟩) ?_ ?_
         rotate_left
         ·intro w'
          go_simp
          with_reducible rfl
         rotate_left
         ·simp only [Act.put, lA, lB, lC, aT, aU]
          rfl
         refine take_ (i := 17) (N := some 49) (v := ?_) (a' := ?_) #[true, true, true, true, true, true, true, true, true, true, true, true, true, true, true, true, true, true, true, false, false, false] rfl rfl (bP HT_.out HW_.out (by kernel_rfl)) (fun _ _ _ h => h) (Or.inl ⟨by rfl, ?_⟩) hHeld ?_ ?_
         rotate_left
         ·rintro w' ⟨s0, s1⟩
          go_simp
          with_reducible rfl
         rotate_left
         ·simp only [Act.put, lA, lB, lC, aT, aU]
          rfl
         refine one_ (i := 19) (N := some 51) #[true, true, true, true, true, true, true, true, true, true, true, true, true, true, true, true, true, true, true, true, false, false] rfl rfl (one_of HT_.out (by kernel_rfl)) (by decide) (fun K hK => ?_)
         refine goes_ Try.func87 (by kernel_rfl) rfl #[.agg #[.slice A0_0 l0_0.length c0_0, .slice A0_1 l0_1.length c0_1], .int .i64 x3_2] (by rfl) rfl rfl (by (try simp only [List.map_toArray, List.map_cons, List.map_nil]); first | done | rfl | (simp only [List.length_drop, List.length_take]; rfl)) ?_
         with_reducible refine (spec_l6Node.calls k2 _ _ l0_0 _ _ l0_1 x3_2 true _ ?side1 ?side2 ?side3 ?side4 A30.out).mono ?_
         (case side1 => repeat (first | exact (Kd.bJ HR0_0.out HB.out) | (with_reducible refine Kd.bD ?_ _) | (with_reducible refine Kd.bE ?_ _) | (with_reducible refine Kd.bK ?_)))
         (case side2 => exact HC0_0.out)
         (case side3 => repeat (first | exact (Kd.bJ HR0_1.out HB.out) | (with_reducible refine Kd.bD ?_ _) | (with_reducible refine Kd.bE ?_ _) | (with_reducible refine Kd.bK ?_)))
         (case side4 => exact HC0_1.out)
         rintro e w34 ⟨rfl, hb⟩
         refine ⟨_, rfl, ?_⟩
         have n0_ := aA.mk (aY (g := gb281) (o := .cells #[.slice A0_0 l0_0.length c0_0, .slice A0_1 l0_1.length c0_1] 58 (0, 0)) (by (with_reducible repeat (first | refine aK ?_ _ | refine aN ?_ | refine aM ?_ _)); exact BK281.out) hb)
         have n1_ := aA.mk (aV (by repeat (first | (with_reducible first | exact HB.out | apply aE | apply aC | apply aD | refine aJ ?_ GE281.out) | exact HB.out)) hb)
         clear BK281
         clear HB
         have BK281 := n0_
         have HB := n1_
         clear n0_ n1_
         (try clear hb)
         (try clear hb2)
         (try clear hk)
         (try clear hi)
         refine hK.out _ _ ⟨(aG BK281.out 0).trans rfl, (aG BK281.out 1).trans rfl⟩ (fun hHeld => ?_)
         clear hK K
         refine norm_ (a' := ?_) ?_ ?_
         rotate_left
         ·show Act.put _ (some 51) _ = _
          simp only [Act.put, lA, lB, lC, aT, aU]
          rfl
         refine aX (i := 20) (N := some 52) (v := ?_) (a' := ?_) #[true, true, true, true, true, true, true, true, true, true, true, true, true, true, true, true, true, true, true, true, true, false] rfl rfl (aW HT_.out (by kernel_rfl)) (fun _ _ _ h => h) (Or.inl ⟨by rfl, ?_⟩) ?_ ?_
         rotate_left
         ·intro w'
          go_simp
          with_reducible rfl
         rotate_left
         ·simp only [Act.put, lA, lB, lC, aT, aU]
          rfl
         refine aX (i := 21) (N := some 53) (v := ?_) (a' := ?_) #[true, true, true, true, true, true, true, true, true, true, true, true, true, true, true, true, true, true, true, true, true, true] rfl rfl (aW HT_.out (by kernel_rfl)) (fun _ _ _ h => h) (Or.inl ⟨by rfl, ?_⟩) ?_ ?_
         rotate_left
         ·intro w'
          go_simp
          with_reducible rfl
         rotate_left
         ·simp only [Act.put, lA, lB, lC, aT, aU]
          rfl
         refine done_ (done_of HT_.out (by kernel_rfl)) ?_
         try go_wp2
         go_roundg k2
         case measure => have := HJ1.out; have := HK2.out; omega
         case rel => exact ⟨(wrap64 (x3_2 + 1)), (by first | rfl | (simp; done) | (simp [*]; done)), H', ⟨by have := HJ1.out; have := HK2.out; omega⟩, ⟨by (with_reducible repeat (first | refine aK ?_ _ | refine aN ?_ | refine aM ?_ _)); exact BK281.out⟩, ⟨by repeat (first | (with_reducible first | exact HB.out | apply aE | apply aC | apply aD | refine aJ ?_ GE281.out) | exact HB.out)⟩⟩
        ·replace c31 := Bool.eq_false_iff.mpr c31
         subst c31
         have H1 : (some false) = some r := by rw [if_neg (show ¬ (false = true) by decide)] at H; exact H
         clear H
         have H := H1
         clear H1
         obtain rfl := Option.some.inj H
         have hcz35_0 : wr.cell? ⟨gb281, 0, none⟩ = some (.slice A0_0 l0_0.length c0_0) := (aG BK281.out 0).trans rfl
         have hcz35_1 : wr.cell? ⟨gb281, 1, none⟩ = some (.slice A0_1 l0_1.length c0_1) := (aG BK281.out 1).trans rfl
         have hfz35_0 := aH BK281.out 0
         have hfz35_1 := aH BK281.out 1
         try go_wp2
         have n0_ := aA.mk (aN BK281.out)
         have n1_ := aA.mk (aD HB.out)
         clear BK281
         clear HB
         have BK281 := n0_
         have HB := n1_
         clear n0_ n1_
         refine start_ (n := 22) (S := fun w' => w'.cell? ⟨gb281, 0, none⟩ = some (.slice A0_0 l0_0.length c0_0) ∧ w'.cell? ⟨gb281, 1, none⟩ = some (.slice A0_1 l0_1.length c0_1)) (ds := []) #[false, false, false, false, false, false, false, false, false, false, false, false, false, false, false, false, false, false, false, false, false, false] (by kernel_rfl) rfl rfl ⟨(aG BK281.out 0).trans rfl, (aG BK281.out 1).trans rfl⟩ (fun hHeld => ?_); refine with_tabW spec_TreeOk.tab6 spec_TreeOk.bits6 (fun HT_ HW_ => ?_)
         generalize wr.drew = w36 at BK281 HB hHeld ⊢
         refine aX (i := 0) (N := some 32) (v := ?_) (a' := ?_) #[true, false, false, false, false, false, false, false, false, false, false, false, false, false, false, false, false, false, false, false, false, false] rfl rfl (aW HT_.out (by kernel_rfl)) (fun _ _ _ h => h) (Or.inl ⟨by rfl, ?_⟩) ?_ ?_
         rotate_left
         ·intro w'
          go_simp
          with_reducible rfl
         rotate_left
         ·simp only [Act.put, lA, lB, lC, aT, aU]
          rfl
         refine aX (i := 1) (N := some 33) (v := ?_) (a' := ?_) #[true, true, false, false, false, false, false, false, false, false, false, false, false, false, false, false, false, false, false, false, false, false] rfl rfl (aW HT_.out (by kernel_rfl)) (fun _ _ _ h => h) (Or.inl ⟨by rfl, ?_⟩) ?_ ?_
         rotate_left
         ·intro w'
          go_simp
          with_reducible rfl
         rotate_left
         ·simp only [Act.put, lA, lB, lC, aT, aU]
          rfl
         refine aX (i := 2) (N := some 34) (v := ?_) (a' := ?_) #[true, true, true, false, false, false, false, false, false, false, false, false, false, false, false, false, false, false, false, false, false, false] rfl rfl (aW HT_.out (by kernel_rfl)) (fun _ _ _ h => h) (Or.inl ⟨by rfl, ?_⟩) ?_ ?_
         rotate_left
         ·intro w'
          go_simp
          with_reducible rfl
         rotate_left
         ·simp only [Act.put, lA, lB, lC, aT, aU]
          rfl
         refine aX (i := 3) (N := some 35) (v := undef) (a' := ?_) #[true, true, true, true, false, false, false, false, false, false, false, false, false, false, false, false, false, false, false, false, false, false] rfl rfl (aW HT_.out (by kernel_rfl)) (fun _ _ _ h => h) (Or.inr ⟨by rfl, rfl⟩) ?_ ?_
         rotate_left
         ·simp only [Act.put, lA, lB, lC, aT, aU]
          rfl
         refine aX (i := 4) (N := some 36) (v := undef) (a' := ?_) #[true, true, true, true, true, false, false, false, false, false, false, false, false, false, false, false, false, false, false, false, false, false] rfl rfl (aW HT_.out (by kernel_rfl)) (fun _ _ _ h => h) (Or.inr ⟨by rfl, rfl⟩) ?_ ?_
         rotate_left
         ·simp only [Act.put, lA, lB, lC, aT, aU]
          rfl
         refine aX (i := 5) (N := some 37) (v := undef) (a' := ?_) #[true, true, true, true, true, true, false, false, false, false, false, false, false, false, false, false, false, false, false, false, false, false] rfl rfl (aW HT_.out (by kernel_rfl)) (fun _ _ _ h => h) (Or.inr ⟨by rfl, rfl⟩) ?_ ?_
         rotate_left
         ·simp only [Act.put, lA, lB, lC, aT, aU]
          rfl
         refine aX (i := 6) (N := some 38) (v := undef) (a' := ?_) #[true, true, true, true, true, true, true, false, false, false, false, false, false, false, false, false, false, false, false, false, false, false] rfl rfl (aW HT_.out (by kernel_rfl)) (fun _ _ _ h => h) (Or.inr ⟨by rfl, rfl⟩) ?_ ?_
         rotate_left
         ·simp only [Act.put, lA, lB, lC, aT, aU]
          rfl
         refine aX (i := 7) (N := some 39) (v := undef) (a' := ?_) #[true, true, true, true, true, true, true, true, false, false, false, false, false, false, false, false, false, false, false, false, false, false] rfl rfl (aW HT_.out (by kernel_rfl)) (fun _ _ _ h => h) (Or.inr ⟨by rfl, rfl⟩) ?_ ?_
         rotate_left
         ·simp only [Act.put, lA, lB, lC, aT, aU]
          rfl
         refine aX (i := 8) (N := some 40) (v := undef) (a' := ?_) #[true, true, true, true, true, true, true, true, true, false, false, false, false, false, false, false, false, false, false, false, false, false] rfl rfl (aW HT_.out (by kernel_rfl)) (fun _ _ _ h => h) (Or.inr ⟨by rfl, rfl⟩) ?_ ?_
         rotate_left
         ·simp only [Act.put, lA, lB, lC, aT, aU]
          rfl
         refine aX (i := 9) (N := some 41) (v := undef) (a' := ?_) #[true, true, true, true, true, true, true, true, true, true, false, false, false, false, false, false, false, false, false, false, false, false] rfl rfl (aW HT_.out (by kernel_rfl)) (fun _ _ _ h => h) (Or.inr ⟨by rfl, rfl⟩) ?_ ?_
         rotate_left
         ·simp only [Act.put, lA, lB, lC, aT, aU]
          rfl
         refine aX (i := 10) (N := some 42) (v := undef) (a' := ?_) #[true, true, true, true, true, true, true, true, true, true, true, false, false, false, false, false, false, false, false, false, false, false] rfl rfl (aW HT_.out (by kernel_rfl)) (fun _ _ _ h => h) (Or.inr ⟨by rfl, rfl⟩) ?_ ?_
         rotate_left
         ·simp only [Act.put, lA, lB, lC, aT, aU]
          rfl
         refine aX (i := 11) (N := some 43) (v := undef) (a' := ?_) #[true, true, true, true, true, true, true, true, true, true, true, true, false, false, false, false, false, false, false, false, false, false] rfl rfl (aW HT_.out (by kernel_rfl)) (fun _ _ _ h => h) (Or.inr ⟨by rfl, rfl⟩) ?_ ?_
         rotate_left
         ·simp only [Act.put, lA, lB, lC, aT, aU]
          rfl
         refine aX (i := 12) (N := some 44) (v := undef) (a' := ?_) #[true, true, true, true, true, true, true, true, true, true, true, true, true, false, false, false, false, false, false, false, false, false] rfl rfl (aW HT_.out (by kernel_rfl)) (fun _ _ _ h => h) (Or.inr ⟨by rfl, rfl⟩) ?_ ?_
         rotate_left
         ·simp only [Act.put, lA, lB, lC, aT, aU]
          rfl
         refine aX (i := 13) (N := some 45) (v := undef) (a' := ?_) #[true, true, true, true, true, true, true, true, true, true, true, true, true, true, false, false, false, false, false, false, false, false] rfl rfl (aW HT_.out (by kernel_rfl)) (fun _ _ _ h => h) (Or.inr ⟨by rfl, rfl⟩) ?_ ?_
         rotate_left
         ·simp only [Act.put, lA, lB, lC, aT, aU]
          rfl
         refine aX (i := 14) (N := some 46) (v := undef) (a' := ?_) #[true, true, true, true, true, true, true, true, true, true, true, true, true, true, true, false, false, false, false, false, false, false] rfl rfl (aW HT_.out (by kernel_rfl)) (fun _ _ _ h => h) (Or.inr ⟨by rfl, rfl⟩) ?_ ?_
         rotate_left
         ·simp only [Act.put, lA, lB, lC, aT, aU]
          rfl
         refine aX (i := 15) (N := some 47) (v := ?_) (a' := ?_) #[true, true, true, true, true, true, true, true, true, true, true, true, true, true, true, true, false, false, false, false, false, false] rfl rfl (aW HT_.out (by kernel_rfl)) (fun _ _ _ h => h) (Or.inl ⟨by rfl, ?_⟩) ?_ ?_
         rotate_left
         ·intro w'
          go_simp
          with_reducible rfl
         rotate_left
         ·simp only [Act.put, lA, lB, lC, aT, aU]
          rfl
         refine aX (i := 16) (N := some 48) (v := ?_) (a' := ?_) #[true, true, true, true, true, true, true, true, true, true, true, true, true, true, true, true, true, false, false, false, false, false] rfl rfl (aW HT_.out (by kernel_rfl)) (fun _ _ _ h => h) (Or.inl ⟨by rfl, ?_⟩) ?_ ?_
         rotate_left
         ·intro w'
          go_simp
          with_reducible rfl
         rotate_left
         ·simp only [Act.put, lA, lB, lC, aT, aU]
          rfl
         refine aX (i := 18) (N := some 50) (v := ?_) (a' := ?_) #[true, true, true, true, true, true, true, true, true, true, true, true, true, true, true, true, true, false, true, false, false, false] rfl rfl (aW HT_.out (by kernel_rfl)) (fun _ _ _ h => h) (Or.inl ⟨by rfl, ?_⟩) ?_ ?_
         rotate_left
         ·intro w'
          go_simp
          with_reducible rfl
         rotate_left
         ·simp only [Act.put, lA, lB, lC, aT, aU]
          rfl
         refine take_ (i := 17) (N := some 49) (v := ?_) (a' := ?_) #[true, true, true, true, true, true, true, true, true, true, true, true, true, true, true, true, true, true, true, false, false, false] rfl rfl (bP HT_.out HW_.out (by kernel_rfl)) (fun _ _ _ h => h) (Or.inl ⟨by rfl, ?_⟩) hHeld ?_ ?_
         rotate_left
         ·rintro w' ⟨s0, s1⟩
          go_simp
          with_reducible rfl
         rotate_left
         ·simp only [Act.put, lA, lB, lC, aT, aU]
          rfl
         refine one_ (i := 19) (N := some 51) #[true, true, true, true, true, true, true, true, true, true, true, true, true, true, true, true, true, true, true, true, false, false] rfl rfl (one_of HT_.out (by kernel_rfl)) (by decide) (fun K hK => ?_)
         refine goes_ Try.func87 (by kernel_rfl) rfl #[.agg #[.slice A0_0 l0_0.length c0_0, .slice A0_1 l0_1.length c0_1], .int .i64 x3_2] (by rfl) rfl rfl (by (try simp only [List.map_toArray, List.map_cons, List.map_nil]); first | done | rfl | (simp only [List.length_drop, List.length_take]; rfl)) ?_
         with_reducible refine (spec_l6Node.calls k2 _ _ l0_0 _ _ l0_1 x3_2 false _ ?side1 ?side2 ?side3 ?side4 A30.out).mono ?_
         (case side1 => repeat (first | exact (Kd.bJ HR0_0.out HB.out) | (with_reducible refine Kd.bD ?_ _) | (with_reducible refine Kd.bE ?_ _) | (with_reducible refine Kd.bK ?_)))
         (case side2 => exact HC0_0.out)
         (case side3 => repeat (first | exact (Kd.bJ HR0_1.out HB.out) | (with_reducible refine Kd.bD ?_ _) | (with_reducible refine Kd.bE ?_ _) | (with_reducible refine Kd.bK ?_)))
         (case side4 => exact HC0_1.out)
         rintro e w37 ⟨rfl, hb⟩
         refine ⟨_, rfl, ?_⟩
         have n0_ := aA.mk (aY (g := gb281) (o := .cells #[.slice A0_0 l0_0.length c0_0, .slice A0_1 l0_1.length c0_1] 58 (0, 0)) (by (with_reducible repeat (first | refine aK ?_ _ | refine aN ?_ | refine aM ?_ _)); exact BK281.out) hb)
         have n1_ := aA.mk (aV (by repeat (first | (with_reducible first | exact HB.out | apply aE | apply aC | apply aD | refine aJ ?_ GE281.out) | exact HB.out)) hb)
         clear BK281
         clear HB
         have BK281 := n0_
         have HB := n1_
         clear n0_ n1_
         (try clear hb)
         (try clear hb2)
         (try clear hk)
         (try clear hi)
         refine hK.out _ _ ⟨(aG BK281.out 0).trans rfl, (aG BK281.out 1).trans rfl⟩ (fun hHeld => ?_)
         clear hK K
         refine norm_ (a' := ?_) ?_ ?_
         rotate_left
         ·show Act.put _ (some 51) _ = _
          simp only [Act.put, lA, lB, lC, aT, aU]
          rfl
         refine aX (i := 20) (N := some 52) (v := ?_) (a' := ?_) #[true, true, true, true, true, true, true, true, true, true, true, true, true, true, true, true, true, true, true, true, true, false] rfl rfl (aW HT_.out (by kernel_rfl)) (fun _ _ _ h => h) (Or.inl ⟨by rfl, ?_⟩) ?_ ?_
         rotate_left
         ·intro w'
          go_simp
          with_reducible rfl
         rotate_left
         ·simp only [Act.put, lA, lB, lC, aT, aU]
          rfl
         refine aX (i := 21) (N := some 53) (v := ?_) (a' := ?_) #[true, true, true, true, true, true, true, true, true, true, true, true, true, true, true, true, true, true, true, true, true, true] rfl rfl (aW HT_.out (by kernel_rfl)) (fun _ _ _ h => h) (Or.inl ⟨by rfl, ?_⟩) ?_ ?_
         rotate_left
         ·intro w'
          go_simp
          with_reducible rfl
         rotate_left
         ·simp only [Act.put, lA, lB, lC, aT, aU]
          rfl
         refine done_ (done_of HT_.out (by kernel_rfl)) ?_
         try go_wp2
         go_ret
         exact ⟨by first | rfl | (simp [errW_none, errW_some] <;> rfl) | (simp [*, errW_none, errW_some] <;> rfl), by repeat (first | (with_reducible first | exact HB.out | apply aE | apply aC | apply aD | refine aJ ?_ GE281.out) | exact HB.out)⟩
      ·rw [if_neg c12] at H
       have c12b0 : decide (x3_2 < (l0_1.length : Int)) = false := decide_eq_false c12
       clear c12
       replace H := lF H
       obtain ⟨t288, A380, H⟩ := H
       replace H : (some (decide ((t288.length : Int) ≤ 60))) = some r := H
       have A38 := aA.mk A380
       clear A380
       obtain rfl := Option.some.inj H
       have hcz39_0 : wr.cell? ⟨gb281, 0, none⟩ = some (.slice A0_0 l0_0.length c0_0) := (aG BK281.out 0).trans rfl
       have hcz39_1 : wr.cell? ⟨gb281, 1, none⟩ = some (.slice A0_1 l0_1.length c0_1) := (aG BK281.out 1).trans rfl
       have hfz39_0 := aH BK281.out 0
       have hfz39_1 := aH BK281.out 1
       go_wp2_with (first | ((with_reducible refine bC (f := 49) rfl ?_); refine bL (some 55) rfl rfl Try.func49 (by kernel_rfl) rfl #[.agg #[.slice A0_0 l0_0.length c0_0, .slice A0_1 l0_1.length c0_1]] rfl (by (try simp only [List.map_toArray, List.map_cons, List.map_nil]); first | done | rfl | (simp only [List.length_drop, List.length_take]; rfl)) ?_; (with_reducible refine (spec_TreeKeys.calls k2 _ _ l0_0 _ _ l0_1 t288 _ ?side1 ?side2 ?side3 ?side4 A38.out).mono ?_); (case side1 => repeat (first | exact (Kd.bJ HR0_0.out HB.out) | (with_reducible refine Kd.bD ?_ _) | (with_reducible refine Kd.bE ?_ _) | (with_reducible refine Kd.bK ?_))); (case side2 => exact HC0_0.out); (case side3 => repeat (first | exact (Kd.bJ HR0_1.out HB.out) | (with_reducible refine Kd.bD ?_ _) | (with_reducible refine Kd.bE ?_ _) | (with_reducible refine Kd.bK ?_))); (case side4 => exact HC0_1.out); rintro e w40 ⟨v289, rfl, ho0, hb⟩; refine ⟨_, rfl, ?_⟩; have n0_ := aA.mk (Kd.R_lower ho0 (aQ (by repeat (first | (with_reducible first | exact HB.out | apply aE | apply aC | apply aD | refine aJ ?_ GE281.out) | exact HB.out)))); have n1_ := aA.mk (aY (g := gb281) (o := .cells #[.slice A0_0 l0_0.length c0_0, .slice A0_1 l0_1.length c0_1] 58 (0, 0)) (by (with_reducible repeat (first | refine aK ?_ _ | refine aN ?_ | refine aM ?_ _)); exact BK281.out) hb); have n2_ := aA.mk (aV (by repeat (first | (with_reducible first | exact HB.out | apply aE | apply aC | apply aD | refine aJ ?_ GE281.out) | exact HB.out)) hb); clear BK281; clear HB; have HO290 := n0_; have BK281 := n1_; have HB := n2_; clear n0_ n1_ n2_; (try clear hb); (try clear ho0); obtain ⟨Ao41, co41, eo41⟩ := Kd.R_slice HO290.out; subst eo41))
       go_ret
       exact ⟨by first | rfl | (simp [errW_none, errW_some] <;> rfl) | (simp [*, errW_none, errW_some] <;> rfl), by repeat (first | (with_reducible first | exact HB.out | apply aE | apply aC | apply aD | refine aJ ?_ GE281.out) | exact HB.out)⟩
end Go.Proofs.Ythpfihklkcnckaa.PFnExactTreeOk

namespace Go.Proofs.Ythpfihklkcnckaa.PFnExactTreeOk
open Go.RowKit Go.Proofs.YthpfihklkcnckaaW.PrintWords Go.Proofs.YthpfihklkcnckaaW.PrintLast Go.Proofs.YthpfihklkcnckaaW.PrintMore
attribute [local go_sem] max2_int min2_int max_two min_two max_three min_three max_four min_four   -- for this text's walks alone
set_option linter.unusedVariables false
set_option linter.unusedSimpArgs false
def impl_within.f (a0 : Int) (a1 : Int) (a2 : Int) : Option (Bool) := if a0 ≥ a1 then (some (decide (a0 ≤ a2))) else (some false)
set_option maxHeartbeats 8000000 in
set_option maxRecDepth 100000 in
theorem impl_within.calls (a0 : Int) (a1 : Int) (a2 : Int) (r : Bool) (w : World) (h : impl_within.f a0 a1 a2 = some r) :
  Calls Try.prog 86 #[.int .i64 a0, .int .i64 a1, .int .i64 a2] w fun e w' => e = .returned (.bool r) ∧ Drawn0 w w' := by
 have H : (if a0 ≥ a1 then (some (decide (a0 ≤ a2))) else (some false)) = some r := h
 clear h
 by_cases c4 : a0 ≥ a1
 ·rw [if_pos c4] at H
  have c4b0 : decide (a1 ≤ a0) = true := decide_eq_true c4
  clear c4
  obtain rfl := Option.some.inj H
  go_enter Try.func86, Try.ntmps86
  go_wp2
  go_ret
  exact ⟨by first | rfl | (simp; done) | (simp [*]; done), by repeat (first | exact Drawn0.refl _ | apply Drawn0.step)⟩
 ·rw [if_neg c4] at H
  have c4b0 : decide (a1 ≤ a0) = false := decide_eq_false c4
  clear c4
  obtain rfl := Option.some.inj H
  go_enter Try.func86, Try.ntmps86
  go_wp2
  go_ret
  exact ⟨by first | rfl | (simp; done) | (simp [*]; done), by repeat (first | exact Drawn0.refl _ | apply Drawn0.step)⟩
def impl_KeyOk.j0 : Nat → Bool → Int → Int → Int → Int → Int → Option (Bool)
 | 0, _, _, _, _, _, _ => none
 | k + 1, x18, x292000, x292001, x292002, x292003, x292004 => if x18 = true then (some false) else (if x292002 = 1 then ((impl_within.f x292003 0 23).bind fun t295 => (if t295 = true then ((impl_within.f x292004 0 999).bind fun t296 => (some t296)) else (some false))) else (if x292003 = 0 then (some (x292004 == 0)) else (some false)))
def impl_KeyOk.f (k : Nat) (a0_0 : Int) (a0_1 : Int) (a0_2 : Int) (a0_3 : Int) (a0_4 : Int) : Option (Bool) := (impl_within.f a0_0 0 15).bind fun t292 => (if t292 = true then ((impl_within.f a0_1 1 60).bind fun t293 => (if t293 = true then ((impl_within.f a0_2 0 2).bind fun t294 => (impl_KeyOk.j0 k (!t294) a0_0 a0_1 a0_2 a0_3 a0_4)) else (impl_KeyOk.j0 k true a0_0 a0_1 a0_2 a0_3 a0_4))) else (impl_KeyOk.j0 k true a0_0 a0_1 a0_2 a0_3 a0_4))
set_option maxHeartbeats 8000000 in
set_option maxRecDepth 100000 in
theorem impl_KeyOk.calls (k : Nat) (a0_0 : Int) (a0_1 : Int) (a0_2 : Int) (a0_3 : Int) (a0_4 : Int) (r : Bool) (w : World) (h : impl_KeyOk.f k a0_0 a0_1 a0_2 a0_3 a0_4 = some r) :
  Calls Try.prog 91 #[.agg #[.int .i64 a0_0, .int .i64 a0_1, .int .i64 a0_2, .int .i64 a0_3, .int .i64 a0_4]] w fun e w' => e = .returned (.bool r) ∧ Below w.heap.size w w' := by
 have hu27 := Try.underlying27
 have HB := aA.mk (Below.refl w.heap.size w)
 have H : ((impl_within.f a0_0 0 15).bind fun t292 => (if t292 = true then ((impl_within.f a0_1 1 60).bind fun t293 => (if t293 = true then ((impl_within.f a0_2 0 2).bind fun t294 => (impl_KeyOk.j0 k (!t294) a0_0 a0_1 a0_2 a0_3 a0_4)) else (impl_KeyOk.j0 k true a0_0 a0_1 a0_2 a0_3 a0_4))) else (impl_KeyOk.j0 k true a0_0 a0_1 a0_2 a0_3 a0_4))) = some r := h
 clear h
 have HC2 := aA.mk H
 clear H
 go_enter Try.func91, Try.ntmps91
 go_upto_region 1 with (first | ((with_reducible refine bF (N := 1) rfl ?_); refine bH ?hg (N := 1) ?hd (cs := #[.int .i64 a0_0, .int .i64 a0_1, .int .i64 a0_2, .int .i64 a0_3, .int .i64 a0_4]) (t := 27) ?hr ?_; (case hd => rfl); (case hg => rfl); (case hr => first | (go_simp; done) | (go_simp; rfl)); intro gb291 hg w3 hbox hb; have n0_ := aA.mk (aV (by repeat (first | (with_reducible first | exact HB.out | apply aE | apply aC | apply aD) | exact HB.out)) hb); have n1_ := aA.mk (hbox); have n2_ := aA.mk ((by rw [hg]; exact (aQ (by repeat (first | (with_reducible first | exact HB.out | apply aE | apply aC | apply aD) | exact HB.out))) : w.heap.size ≤ gb291)); have n3_ := aA.mk ((by rw [hg]; exact (aQ (by repeat (first | (with_reducible first | exact HB.out | apply aE | apply aC | apply aD) | exact HB.out))) : w.heap.size ≤ gb291)); clear HB; have HB := n0_; have BK291 := n1_; have GW291 := n2_; have GE291 := n3_; clear n0_ n1_ n2_ n3_; clear hb hbox hg))
 (try simp only [Act.put, lA, lB, lC])
 go_cut [18] (fun v18 wc => ∃ (kq : Nat) (x18_1 : Bool), v18 = .bool x18_1 ∧ aA (impl_KeyOk.j0 kq x18_1 a0_0 a0_1 a0_2 a0_3 a0_4 = some r) ∧ aA (kq ≤ k) ∧ aA (wc.heap[gb291]? = some (.cells #[.int .i64 a0_0, .int .i64 a0_1, .int .i64 a0_2, .int .i64 a0_3, .int .i64 a0_4] 27 (0, 0))) ∧ aA (Below w.heap.size w wc))
 case first =>
  have H := HC2.out
  clear HC2
  replace H := lF H
  obtain ⟨t292, A40, H⟩ := H
  replace H : (if t292 = true then ((impl_within.f a0_1 1 60).bind fun t293 => (if t293 = true then ((impl_within.f a0_2 0 2).bind fun t294 => (impl_KeyOk.j0 k (!t294) a0_0 a0_1 a0_2 a0_3 a0_4)) else (impl_KeyOk.j0 k true a0_0 a0_1 a0_2 a0_3 a0_4))) else (impl_KeyOk.j0 k true a0_0 a0_1 a0_2 a0_3 a0_4)) = some r := H
  have A4 := aA.mk A40
  clear A40
  by_cases c5 : t292 = true
  ·subst c5
   have H1 : ((impl_within.f a0_1 1 60).bind fun t293 => (if t293 = true then ((impl_within.f a0_2 0 2).bind fun t294 => (impl_KeyOk.j0 k (!t294) a0_0 a0_1 a0_2 a0_3 a0_4)) else (impl_KeyOk.j0 k true a0_0 a0_1 a0_2 a0_3 a0_4))) = some r := by rw [if_pos rfl] at H; exact H
   clear H
   have H := H1
   clear H1
   replace H := lF H
   obtain ⟨t293, A60, H⟩ := H
   replace H : (if t293 = true then ((impl_within.f a0_2 0 2).bind fun t294 => (impl_KeyOk.j0 k (!t294) a0_0 a0_1 a0_2 a0_3 a0_4)) else (impl_KeyOk.j0 k true a0_0 a0_1 a0_2 a0_3 a0_4)) = some r := H
   have A6 := aA.mk A60
   clear A60
   by_cases c7 : t293 = true
   ·subst c7
    have H1 : ((impl_within.f a0_2 0 2).bind fun t294 => (impl_KeyOk.j0 k (!t294) a0_0 a0_1 a0_2 a0_3 a0_4)) = some r := by rw [if_pos rfl] at H; exact H
    clear H
    have H := H1
    clear H1
    replace H := lF H
    obtain ⟨t294, A80, H⟩ := H
    replace H : (impl_KeyOk.j0 k (!t294) a0_0 a0_1 a0_2 a0_3 a0_4) = some r := H
    have A8 := aA.mk A80
    clear A80
    have H' := aA.mk H
    clear H
    have hcz9_0 : w3.cell? ⟨gb291, 0, none⟩ = some (.int .i64 a0_0) := (aG BK291.out 0).trans rfl
    have hcz9_1 : w3.cell? ⟨gb291, 1, none⟩ = some (.int .i64 a0_1) := (aG BK291.out 1).trans rfl
    have hcz9_2 : w3.cell? ⟨gb291, 2, none⟩ = some (.int .i64 a0_2) := (aG BK291.out 2).trans rfl
    have hcz9_3 : w3.cell? ⟨gb291, 3, none⟩ = some (.int .i64 a0_3) := (aG BK291.out 3).trans rfl
    have hcz9_4 : w3.cell? ⟨gb291, 4, none⟩ = some (.int .i64 a0_4) := (aG BK291.out 4).trans rfl
    have hfz9_0 := aH BK291.out 0
    have hfz9_1 := aH BK291.out 1
    have hfz9_2 := aH BK291.out 2
    have hfz9_3 := aH BK291.out 3
    have hfz9_4 := aH BK291.out 4
    go_wp2_with (first | ((with_reducible refine bC (f := 86) rfl ?_); refine bL (some 5) rfl rfl Try.func86 (by kernel_rfl) rfl #[.int .i64 a0_0, .int .i64 0, .int .i64 15] rfl (by (try simp only [List.map_toArray, List.map_cons, List.map_nil]); first | done | rfl | (simp only [List.length_drop, List.length_take]; rfl)) ?_; (with_reducible refine (impl_within.calls a0_0 0 15 true _ A4.out).mono ?_); rintro e w' ⟨rfl, ⟨nd, rfl⟩⟩; refine ⟨_, rfl, ?_⟩) | (go_at_call 86; (with_reducible refine (impl_within.calls a0_1 1 60 true _ A6.out).mono ?_); rintro e w' ⟨rfl, ⟨nd, rfl⟩⟩) | (go_at_call 86; (with_reducible refine (impl_within.calls a0_2 0 2 t294 _ A8.out).mono ?_); rintro e w' ⟨rfl, ⟨nd, rfl⟩⟩))
    go_meet
    case rel => exact ⟨_, (!t294), (by first | rfl | (simp; done) | (simp [*]; done)), H', ⟨by first | omega | exact Nat.le_refl _⟩, ⟨by (with_reducible repeat (first | refine aK ?_ _ | refine aN ?_ | refine aM ?_ _)); exact BK291.out⟩, ⟨by repeat (first | (with_reducible first | exact HB.out | apply aE | apply aC | apply aD | refine aJ ?_ GE291.out) | exact HB.out)⟩⟩
   ·replace c7 := Bool.eq_false_iff.mpr c7
    subst c7
    have H1 : (impl_KeyOk.j0 k true a0_0 a0_1 a0_2 a0_3 a0_4) = some r := by rw [if_neg (show ¬ (false = true) by decide)] at H; exact H
    clear H
    have H := H1
    clear H1
    have H' := aA.mk H
    clear H
    have hcz10_0 : w3.cell? ⟨gb291, 0, none⟩ = some (.int .i64 a0_0) := (aG BK291.out 0).trans rfl
    have hcz10_1 : w3.cell? ⟨gb291, 1, none⟩ = some (.int .i64 a0_1) := (aG BK291.out 1).trans rfl
    have hcz10_2 : w3.cell? ⟨gb291, 2, none⟩ = some (.int .i64 a0_2) := (aG BK291.out 2).trans rfl
    have hcz10_3 : w3.cell? ⟨gb291, 3, none⟩ = some (.int .i64 a0_3) := (aG BK291.out 3).trans rfl
    have hcz10_4 : w3.cell? ⟨gb291, 4, none⟩ = some (.int .i64 a0_4) := (aG BK291.out 4).trans rfl
    have hfz10_0 := aH BK291.out 0
    have hfz10_1 := aH BK291.out 1
    have hfz10_2 := aH BK291.out 2
    have hfz10_3 := aH BK291.out 3
    have hfz10_4 := aH BK291.out 4
    go_wp2_with (first | ((with_reducible refine bC (f := 86) rfl ?_); refine bL (some 5) rfl rfl Try.func86 (by kernel_rfl) rfl #[.int .i64 a0_0, .int .i64 0, .int .i64 15] rfl (by (try simp only [List.map_toArray, List.map_cons, List.map_nil]); first | done | rfl | (simp only [List.length_drop, List.length_take]; rfl)) ?_; (with_reducible refine (impl_within.calls a0_0 0 15 true _ A4.out).mono ?_); rintro e w' ⟨rfl, ⟨nd, rfl⟩⟩; refine ⟨_, rfl, ?_⟩) | (go_at_call 86; (with_reducible refine (impl_within.calls a0_1 1 60 false _ A6.out).mono ?_); rintro e w' ⟨rfl, ⟨nd, rfl⟩⟩))
    go_meet
    case rel => exact ⟨_, (true), (by first | rfl | (simp; done) | (simp [*]; done)), H', ⟨by first | omega | exact Nat.le_refl _⟩, ⟨by (with_reducible repeat (first | refine aK ?_ _ | refine aN ?_ | refine aM ?_ _)); exact BK291.out⟩, ⟨by repeat (first | (with_reducible first | exact HB.out | apply aE | apply aC | apply aD | refine aJ ?_ GE291.out) | exact HB.out)⟩⟩
  ·replace c5 := Bool.eq_false_iff.mpr c5
   subst c5
   have H1 : (impl_KeyOk.j0 k true a0_0 a0_1 a0_2 a0_3 a0_4) = some r := by rw [if_neg (show ¬ (false = true) by decide)] at H; exact H
   clear H
   have H := H1
   clear H1
   have H' := aA.mk H
   clear H
   have hcz11_0 : w3.cell? ⟨gb291, 0, none⟩ = some (.int .i64 a0_0) := (aG BK291.out 0).trans rfl
   have hcz11_1 : w3.cell? ⟨gb291, 1, none⟩ = some (.int .i64 a0_1) := (aG BK291.out 1).trans rfl
   have hcz11_2 : w3.cell? ⟨gb291, 2, none⟩ = some (.int .i64 a0_2) := (aG BK291.out 2).trans rfl
   have hcz11_3 : w3.cell? ⟨gb291, 3, none⟩ = some (.int .i64 a0_3) := (aG BK291.out 3).trans rfl
   have hcz11_4 : w3.cell? ⟨gb291, 4, none⟩ = some (.int .i64 a0_4) := (aG BK291.out 4).trans rfl
   have hfz11_0 := aH BK291.out 0
   have hfz11_1 := aH BK291.out 1
   have hfz11_2 := aH BK291.out 2
   have hfz11_3 := aH BK291.out 3
   have hfz11_4 := aH BK291.out 4
   go_wp2_with (first | ((with_reducible refine bC (f := 86) rfl ?_); refine bL (some 5) rfl rfl Try.func86 (by kernel_rfl) rfl #[.int .i64 a0_0, .int .i64 0, .int .i64 15] rfl (by (try simp only [List.map_toArray, List.map_cons, List.map_nil]); first | done | rfl | (simp only [List.length_drop, List.length_take]; rfl)) ?_; (with_reducible refine (impl_within.calls a0_0 0 15 false _ A4.out).mono ?_); rintro e w' ⟨rfl, ⟨nd, rfl⟩⟩; refine ⟨_, rfl, ?_⟩))
   go_meet
   case rel => exact ⟨_, (true), (by first | rfl | (simp; done) | (simp [*]; done)), H', ⟨by first | omega | exact Nat.le_refl _⟩, ⟨by (with_reducible repeat (first | refine aK ?_ _ | refine aN ?_ | refine aM ?_ _)); exact BK291.out⟩, ⟨by repeat (first | (with_reducible first | exact HB.out | apply aE | apply aC | apply aD | refine aJ ?_ GE291.out) | exact HB.out)⟩⟩
 case rest =>
  clear HC2
  try clear p2
  try clear c5
  try clear c7
  try clear c8
  try clear c9
  try clear hcz10_0
  try clear hcz10_1
  try clear hcz10_2
  try clear hcz10_3
  try clear hcz10_4
  try clear hcz11_0
  try clear hcz11_1
  try clear hcz11_2
  try clear hcz11_3
  try clear hcz11_4
  try clear hcz9_0
  try clear hcz9_1
  try clear hcz9_2
  try clear hcz9_3
  try clear hcz9_4
  try clear hfz10_0
  try clear hfz10_1
  try clear hfz10_2
  try clear hfz10_3
  try clear hfz10_4
  try clear hfz11_0
  try clear hfz11_1
  try clear hfz11_2
  try clear hfz11_3
  try clear hfz11_4
  try clear hfz9_0
  try clear hfz9_1
  try clear hfz9_2
  try clear hfz9_3
  try clear hfz9_4
  obtain ⟨kq, x18_1, rfl, HA, HJ1, BK291, HB⟩ := hcut
  cases kq with
  | zero => exact absurd HA.out (by simp [impl_KeyOk.j0])
  | succ kj1 =>
   have H := HA.out
   clear HA
   simp only [impl_KeyOk.j0] at H
   by_cases c12 : x18_1 = true
   ·subst c12
    have H1 : (some false) = some r := by rw [if_pos rfl] at H; exact H
    clear H
    have H := H1
    clear H1
    obtain rfl := Option.some.inj H
    go_wp2
    go_ret
    exact ⟨by first | rfl | (simp [errW_none, errW_some] <;> rfl) | (simp [*, errW_none, errW_some] <;> rfl), by repeat (first | (with_reducible first | exact HB.out | apply aE | apply aC | apply aD | refine aJ ?_ GE291.out) | exact HB.out)⟩
   ·replace c12 := Bool.eq_false_iff.mpr c12
    subst c12
    have H1 : (if a0_2 = 1 then ((impl_within.f a0_3 0 23).bind fun t295 => (if t295 = true then ((impl_within.f a0_4 0 999).bind fun t296 => (some t296)) else (some false))) else (if a0_3 = 0 then (some (a0_4 == 0)) else (some false))) = some r := by rw [if_neg (show ¬ (false = true) by decide)] at H; exact H
    clear H
    have H := H1
    clear H1
    by_cases c13 : a0_2 = 1
    ·rw [if_pos c13] at H
     have c13b0 : (a0_2 == 1) = true := beq_iff_eq.mpr c13
     have c13b1 : (a0_2 != 1) = false := bne_eq_false_iff_eq.mpr c13
     clear c13
     replace H := lF H
     obtain ⟨t295, A140, H⟩ := H
     replace H : (if t295 = true then ((impl_within.f a0_4 0 999).bind fun t296 => (some t296)) else (some false)) = some r := H
     have A14 := aA.mk A140
     clear A140
     by_cases c15 : t295 = true
     ·subst c15
      have H1 : ((impl_within.f a0_4 0 999).bind fun t296 => (some t296)) = some r := by rw [if_pos rfl] at H; exact H
      clear H
      have H := H1
      clear H1
      replace H := lF H
      obtain ⟨t296, A160, H⟩ := H
      replace H : (some t296) = some r := H
      have A16 := aA.mk A160
      clear A160
      obtain rfl := Option.some.inj H
      have hcz17_0 : wc.cell? ⟨gb291, 0, none⟩ = some (.int .i64 a0_0) := (aG BK291.out 0).trans rfl
      have hcz17_1 : wc.cell? ⟨gb291, 1, none⟩ = some (.int .i64 a0_1) := (aG BK291.out 1).trans rfl
      have hcz17_2 : wc.cell? ⟨gb291, 2, none⟩ = some (.int .i64 a0_2) := (aG BK291.out 2).trans rfl
      have hcz17_3 : wc.cell? ⟨gb291, 3, none⟩ = some (.int .i64 a0_3) := (aG BK291.out 3).trans rfl
      have hcz17_4 : wc.cell? ⟨gb291, 4, none⟩ = some (.int .i64 a0_4) := (aG BK291.out 4).trans rfl
      have hfz17_0 := aH BK291.out 0
      have hfz17_1 := aH BK291.out 1
      have hfz17_2 := aH BK291.out 2
      have hfz17_3 := aH BK291.out 3
      have hfz17_4 := aH BK291.out 4
      go_wp2_with (first | ((with_reducible refine bC (f := 86) rfl ?_); refine bL (some 32) rfl rfl Try.func86 (by kernel_rfl) rfl #[.int .i64 a0_3, .int .i64 0, .int .i64 23] rfl (by (try simp only [List.map_toArray, List.map_cons, List.map_nil]); first | done | rfl | (simp only [List.length_drop, List.length_take]; rfl)) ?_; (with_reducible refine (impl_within.calls a0_3 0 23 true _ A14.out).mono ?_); rintro e w' ⟨rfl, ⟨nd, rfl⟩⟩; refine ⟨_, rfl, ?_⟩) | (go_at_call 86; (with_reducible refine (impl_within.calls a0_4 0 999 t296 _ A16.out).mono ?_); rintro e w' ⟨rfl, ⟨nd, rfl⟩⟩))
      go_ret
      exact ⟨by first | rfl | (simp [errW_none, errW_some] <;> rfl) | (simp [*, errW_none, errW_some] <;> rfl), by repeat (first | (with_reducible first | exact HB.out | apply aE | apply aC | apply aD | refine aJ ?_ GE291.out) | exact HB.out)⟩
     ·replace c15 := Bool.eq_false_iff.mpr c15
      subst c15
      have H1 : (some false) = some r := by rw [if_neg (show ¬ (false = true) by decide)] at H; exact H
      clear H
      have H := H1
      clear H1
      obtain rfl := Option.some.inj H
      have hcz18_0 : wc.cell? ⟨gb291, 0, none⟩ = some (.int .i64 a0_0) := (aG BK291.out 0).trans rfl
      have hcz18_1 : wc.cell? ⟨gb291, 1, none⟩ = some (.int .i64 a0_1) := (aG BK291.out 1).trans rfl
      have hcz18_2 : wc.cell? ⟨gb291, 2, none⟩ = some (.int .i64 a0_2) := (aG BK291.out 2).trans rfl
      have hcz18_3 : wc.cell? ⟨gb291, 3, none⟩ = some (.int .i64 a0_3) := (aG BK291.out 3).trans rfl
      have hcz18_4 : wc.cell? ⟨gb291, 4, none⟩ = some (.int .i64 a0_4) := (aG BK291.out 4).trans rfl
      have hfz18_0 := aH BK291.out 0
      have hfz18_1 := aH BK291.out 1
      have hfz18_2 := aH BK291.out 2
      have hfz18_3 := aH BK291.out 3
      have hfz18_4 := aH BK291.out 4
      go_wp2_with (first | ((with_reducible refine bC (f := 86) rfl ?_); refine bL (some 32) rfl rfl Try.func86 (by kernel_rfl) rfl #[.int .i64 a0_3, .int .i64 0, .int .i64 23] rfl (by (try simp only [List.map_toArray, List.map_cons, List.map_nil]); first | done | rfl | (simp only [List.length_drop, List.length_take]; rfl)) ?_; (with_reducible refine (impl_within.calls a0_3 0 23 false _ A14.out).mono ?_); rintro e w' ⟨rfl, ⟨nd, rfl⟩⟩; refine ⟨_, rfl, ?_⟩))
      go_ret
      exact ⟨by first | rfl | (simp [errW_none, errW_some] <;> rfl) | (simp [*, errW_none, errW_some] <;> rfl), by repeat (first | (with_reducible first | exact HB.out | apply aE | apply aC | apply aD | refine aJ ?_ GE291.out) | exact HB.out)⟩
    ·rw [if_neg c13] at H
     have c13b0 : (a0_2 == 1) = false := beq_eq_false_iff_ne.mpr c13
     have c13b1 : (a0_2 != 1) = true := bne_iff_ne.mpr c13
     by_cases c19 : a0_3 = 0
     ·rw [if_pos c19] at H
      have c19b0 : (a0_3 == 0) = true := beq_iff_eq.mpr c19
      have c19b1 : (a0_3 != 0) = false := bne_eq_false_iff_eq.mpr c19
      clear c19
      obtain rfl := Option.some.inj H
      have hcz20_0 : wc.cell? ⟨gb291, 0, none⟩ = some (.int .i64 a0_0) := (aG BK291.out 0).trans rfl
      have hcz20_1 : wc.cell? ⟨gb291, 1, none⟩ = some (.int .i64 a0_1) := (aG BK291.out 1).trans rfl
      have hcz20_2 : wc.cell? ⟨gb291, 2, none⟩ = some (.int .i64 a0_2) := (aG BK291.out 2).trans rfl
      have hcz20_3 : wc.cell? ⟨gb291, 3, none⟩ = some (.int .i64 a0_3) := (aG BK291.out 3).trans rfl
      have hcz20_4 : wc.cell? ⟨gb291, 4, none⟩ = some (.int .i64 a0_4) := (aG BK291.out 4).trans rfl
      have hfz20_0 := aH BK291.out 0
      have hfz20_1 := aH BK291.out 1
      have hfz20_2 := aH BK291.out 2
      have hfz20_3 := aH BK291.out 3
      have hfz20_4 := aH BK291.out 4
      go_wp2
      go_ret
      exact ⟨by first | rfl | (simp [errW_none, errW_some] <;> rfl) | (simp [*, errW_none, errW_some] <;> rfl), by repeat (first | (with_reducible first | exact HB.out | apply aE | apply aC | apply aD | refine aJ ?_ GE291.out) | exact HB.out)⟩
     ·rw [if_neg c19] at H
      have c19b0 : (a0_3 == 0) = false := beq_eq_false_iff_ne.mpr c19
      have c19b1 : (a0_3 != 0) = true := bne_iff_ne.mpr c19
      obtain rfl := Option.some.inj H
      have hcz21_0 : wc.cell? ⟨gb291, 0, none⟩ = some (.int .i64 a0_0) := (aG BK291.out 0).trans rfl
      have hcz21_1 : wc.cell? ⟨gb291, 1, none⟩ = some (.int .i64 a0_1) := (aG BK291.out 1).trans rfl
      have hcz21_2 : wc.cell? ⟨gb291, 2, none⟩ = some (.int .i64 a0_2) := (aG BK291.out 2).trans rfl
      have hcz21_3 : wc.cell? ⟨gb291, 3, none⟩ = some (.int .i64 a0_3) := (aG BK291.out 3).trans rfl
      have hcz21_4 : wc.cell? ⟨gb291, 4, none⟩ = some (.int .i64 a0_4) := (aG BK291.out 4).trans rfl
      have hfz21_0 := aH BK291.out 0
      have hfz21_1 := aH BK291.out 1
      have hfz21_2 := aH BK291.out 2
      have hfz21_3 := aH BK291.out 3
      have hfz21_4 := aH BK291.out 4
      go_wp2
      go_ret
      exact ⟨by first | rfl | (simp [errW_none, errW_some] <;> rfl) | (simp [*, errW_none, errW_some] <;> rfl), by repeat (first | (with_reducible first | exact HB.out | apply aE | apply aC | apply aD | refine aJ ?_ GE291.out) | exact HB.out)⟩
def impl_LessKey.f (a0_0 : Int) (a0_1 : Int) (a0_2 : Int) (a0_3 : Int) (a0_4 : Int) (a1_0 : Int) (a1_1 : Int) (a1_2 : Int) (a1_3 : Int) (a1_4 : Int) : Option (Bool) := if a0_0 < a1_0 then (some true) else (if a0_0 = a1_0 then (some (decide (a0_1 < a1_1))) else (some false))
set_option maxHeartbeats 8000000 in
set_option maxRecDepth 100000 in
theorem impl_LessKey.calls (a0_0 : Int) (a0_1 : Int) (a0_2 : Int) (a0_3 : Int) (a0_4 : Int) (a1_0 : Int) (a1_1 : Int) (a1_2 : Int) (a1_3 : Int) (a1_4 : Int) (r : Bool) (w : World) (h : impl_LessKey.f a0_0 a0_1 a0_2 a0_3 a0_4 a1_0 a1_1 a1_2 a1_3 a1_4 = some r) :
  Calls Try.prog 92 #[.agg #[.int .i64 a0_0, .int .i64 a0_1, .int .i64 a0_2, .int .i64 a0_3, .int .i64 a0_4], .agg #[.int .i64 a1_0, .int .i64 a1_1, .int .i64 a1_2, .int .i64 a1_3, .int .i64 a1_4]] w fun e w' => e = .returned (.bool r) ∧ Below w.heap.size w w' := by
 have hu27 := Try.underlying27
 have HB := aA.mk (Below.refl w.heap.size w)
 have H : (if a0_0 < a1_0 then (some true) else (if a0_0 = a1_0 then (some (decide (a0_1 < a1_1))) else (some false))) = some r := h
 clear h
 by_cases c3 : a0_0 < a1_0
 ·rw [if_pos c3] at H
  have c3b0 : decide (a0_0 < a1_0) = true := decide_eq_true c3
  clear c3
  obtain rfl := Option.some.inj H
  go_enter Try.func92, Try.ntmps92
  go_wp2_with (first | ((with_reducible refine bF (N := 2) rfl ?_); refine bH ?hg (N := 2) ?hd (cs := #[.int .i64 a0_0, .int .i64 a0_1, .int .i64 a0_2, .int .i64 a0_3, .int .i64 a0_4]) (t := 27) ?hr ?_; (case hd => rfl); (case hg => rfl); (case hr => first | (go_simp; done) | (go_simp; rfl)); intro gb297 hg w4 hbox hb; have n0_ := aA.mk (aV (by repeat (first | (with_reducible first | exact HB.out | apply aE | apply aC | apply aD) | exact HB.out)) hb); have n1_ := aA.mk (hbox); have n2_ := aA.mk ((by rw [hg]; exact (aQ (by repeat (first | (with_reducible first | exact HB.out | apply aE | apply aC | apply aD) | exact HB.out))) : w.heap.size ≤ gb297)); have n3_ := aA.mk ((by rw [hg]; exact (aQ (by repeat (first | (with_reducible first | exact HB.out | apply aE | apply aC | apply aD) | exact HB.out))) : w.heap.size ≤ gb297)); clear HB; have HB := n0_; have BK297 := n1_; have GW297 := n2_; have GE297 := n3_; clear n0_ n1_ n2_ n3_; clear hb hbox hg) | ((with_reducible refine bF (N := 3) rfl ?_); refine bH ?hg (N := 3) ?hd (cs := #[.int .i64 a1_0, .int .i64 a1_1, .int .i64 a1_2, .int .i64 a1_3, .int .i64 a1_4]) (t := 27) ?hr ?_; (case hd => rfl); (case hg => rfl); (case hr => first | (go_simp; done) | (go_simp; rfl)); intro gb298 hg w5 hbox hb; have n0_ := aA.mk (aY (g := gb297) (o := .cells #[.int .i64 a0_0, .int .i64 a0_1, .int .i64 a0_2, .int .i64 a0_3, .int .i64 a0_4] 27 (0, 0)) (by (with_reducible repeat (first | refine aK ?_ _ | refine aN ?_ | refine aM ?_ _)); exact BK297.out) hb); have n1_ := aA.mk (aV (by repeat (first | (with_reducible first | exact HB.out | apply aE | apply aC | apply aD | refine aJ ?_ GE297.out) | exact HB.out)) hb); have n2_ := aA.mk (hbox); have n3_ := aA.mk ((by rw [hg]; exact (aQ (by repeat (first | (with_reducible first | exact HB.out | apply aE | apply aC | apply aD | refine aJ ?_ GE297.out) | exact HB.out))) : w.heap.size ≤ gb298)); have n4_ := aA.mk ((by rw [hg]; exact (aQ (by repeat (first | (with_reducible first | exact HB.out | apply aE | apply aC | apply aD | refine aJ ?_ GE297.out) | exact HB.out))) : w.heap.size ≤ gb298)); have n5_ := aA.mk ((by rw [hg]; exact Nat.ne_of_lt (bN (g := gb297) (o := .cells #[.int .i64 a0_0, .int .i64 a0_1, .int .i64 a0_2, .int .i64 a0_3, .int .i64 a0_4] 27 (0, 0)) (by (with_reducible repeat (first | refine aK ?_ _ | refine aN ?_ | refine aM ?_ _)); exact BK297.out)) : gb297 ≠ gb298)); have n6_ := aA.mk ((by rw [hg]; exact Nat.ne_of_gt (bN (g := gb297) (o := .cells #[.int .i64 a0_0, .int .i64 a0_1, .int .i64 a0_2, .int .i64 a0_3, .int .i64 a0_4] 27 (0, 0)) (by (with_reducible repeat (first | refine aK ?_ _ | refine aN ?_ | refine aM ?_ _)); exact BK297.out)) : gb298 ≠ gb297)); clear BK297; clear HB; have BK297 := n0_; have HB := n1_; have BK298 := n2_; have GW298 := n3_; have GE298 := n4_; have NB297_298 := n5_; have NB298_297 := n6_; clear n0_ n1_ n2_ n3_ n4_ n5_ n6_; clear hb hbox hg; have hnb6 := NB297_298.out; have hnc6 := NB298_297.out; have hcz7_0 : w5.cell? ⟨gb297, 0, none⟩ = some (.int .i64 a0_0) := (aG BK297.out 0).trans rfl; have hcz7_1 : w5.cell? ⟨gb297, 1, none⟩ = some (.int .i64 a0_1) := (aG BK297.out 1).trans rfl; have hcz7_2 : w5.cell? ⟨gb297, 2, none⟩ = some (.int .i64 a0_2) := (aG BK297.out 2).trans rfl; have hcz7_3 : w5.cell? ⟨gb297, 3, none⟩ = some (.int .i64 a0_3) := (aG BK297.out 3).trans rfl; have hcz7_4 : w5.cell? ⟨gb297, 4, none⟩ = some (.int .i64 a0_4) := (aG BK297.out 4).trans rfl; have hfz7_0 := aH BK297.out 0; have hfz7_1 := aH BK297.out 1; have hfz7_2 := aH BK297.out 2; have hfz7_3 := aH BK297.out 3; have hfz7_4 := aH BK297.out 4; have hcz8_0 : w5.cell? ⟨gb298, 0, none⟩ = some (.int .i64 a1_0) := (aG BK298.out 0).trans rfl; have hcz8_1 : w5.cell? ⟨gb298, 1, none⟩ = some (.int .i64 a1_1) := (aG BK298.out 1).trans rfl; have hcz8_2 : w5.cell? ⟨gb298, 2, none⟩ = some (.int .i64 a1_2) := (aG BK298.out 2).trans rfl; have hcz8_3 : w5.cell? ⟨gb298, 3, none⟩ = some (.int .i64 a1_3) := (aG BK298.out 3).trans rfl; have hcz8_4 : w5.cell? ⟨gb298, 4, none⟩ = some (.int .i64 a1_4) := (aG BK298.out 4).trans rfl; have hfz8_0 := aH BK298.out 0; have hfz8_1 := aH BK298.out 1; have hfz8_2 := aH BK298.out 2; have hfz8_3 := aH BK298.out 3; have hfz8_4 := aH BK298.out 4))
  go_ret
  exact ⟨by first | rfl | (simp [errW_none, errW_some] <;> rfl) | (simp [*, errW_none, errW_some] <;> rfl), by repeat (first | (with_reducible first | exact HB.out | apply aE | apply aC | apply aD | refine aJ ?_ GE297.out | refine aJ ?_ GE298.out) | exact HB.out)⟩
 ·rw [if_neg c3] at H
  have c3b0 : decide (a0_0 < a1_0) = false := decide_eq_false c3
  clear c3
  by_cases c9 : a0_0 = a1_0
  ·rw [if_pos c9] at H
   have c9b0 : (a0_0 == a1_0) = true := beq_iff_eq.mpr c9
   have c9b1 : (a0_0 != a1_0) = false := bne_eq_false_iff_eq.mpr c9
   clear c9
   obtain rfl := Option.some.inj H
   go_enter Try.func92, Try.ntmps92
   go_wp2_with (first | ((with_reducible refine bF (N := 2) rfl ?_); refine bH ?hg (N := 2) ?hd (cs := #[.int .i64 a0_0, .int .i64 a0_1, .int .i64 a0_2, .int .i64 a0_3, .int .i64 a0_4]) (t := 27) ?hr ?_; (case hd => rfl); (case hg => rfl); (case hr => first | (go_simp; done) | (go_simp; rfl)); intro gb297 hg w10 hbox hb; have n0_ := aA.mk (aV (by repeat (first | (with_reducible first | exact HB.out | apply aE | apply aC | apply aD) | exact HB.out)) hb); have n1_ := aA.mk (hbox); have n2_ := aA.mk ((by rw [hg]; exact (aQ (by repeat (first | (with_reducible first | exact HB.out | apply aE | apply aC | apply aD) | exact HB.out))) : w.heap.size ≤ gb297)); have n3_ := aA.mk ((by rw [hg]; exact (aQ (by repeat (first | (with_reducible first | exact HB.out | apply aE | apply aC | apply aD) | exact HB.out))) : w.heap.size ≤ gb297)); clear HB; have HB := n0_; have BK297 := n1_; have GW297 := n2_; have GE297 := n3_; clear n0_ n1_ n2_ n3_; clear hb hbox hg) | ((with_reducible refine bF (N := 3) rfl ?_); refine bH ?hg (N := 3) ?hd (cs := #[.int .i64 a1_0, .int .i64 a1_1, .int .i64 a1_2, .int .i64 a1_3, .int .i64 a1_4]) (t := 27) ?hr ?_; (case hd => rfl); (case hg => rfl); (case hr => first | (go_simp; done) | (go_simp; rfl)); intro gb298 hg w11 hbox hb; have n0_ := aA.mk (aY (g := gb297) (o := .cells #[.int .i64 a0_0, .int .i64 a0_1, .int .i64 a0_2, .int .i64 a0_3, .int .i64 a0_4] 27 (0, 0)) (by (with_reducible repeat (first | refine aK ?_ _ | refine aN ?_ | refine aM ?_ _)); exact BK297.out) hb); have n1_ := aA.mk (aV (by repeat (first | (with_reducible first | exact HB.out | apply aE | apply aC | apply aD | refine aJ ?_ GE297.out) | exact HB.out)) hb); have n2_ := aA.mk (hbox); have n3_ := aA.mk ((by rw [hg]; exact (aQ (by repeat (first | (with_reducible first | exact HB.out | apply aE | apply aC | apply aD | refine aJ ?_ GE297.out) | exact HB.out))) : w.heap.size ≤ gb298)); have n4_ := aA.mk ((by rw [hg]; exact (aQ (by repeat (first | (with_reducible first | exact HB.out | apply aE | apply aC | apply aD | refine aJ ?_ GE297.out) | exact HB.out))) : w.heap.size ≤ gb298)); have n5_ := aA.mk ((by rw [hg]; exact Nat.ne_of_lt (bN (g := gb297) (o := .cells #[.int .i64 a0_0, .int .i64 a0_1, .int .i64 a0_2, .int .i64 a0_3, .int .i64 a0_4] 27 (0, 0)) (by (with_reducible repeat (first | refine aK ?_ _ | refine aN ?_ | refine aM ?_ _)); exact BK297.out)) : gb297 ≠ gb298)); have n6_ := aA.mk ((by rw [hg]; exact Nat.ne_of_gt (bN (g := gb297) (o := .cells #[.int .i64 a0_0, .int .i64 a0_1, .int .i64 a0_2, .int .i64 a0_3, .int .i64 a0_4] 27 (0, 0)) (by (with_reducible repeat (first | refine aK ?_ _ | refine aN ?_ | refine aM ?_ _)); exact BK297.out)) : gb298 ≠ gb297)); clear BK297; clear HB; have BK297 := n0_; have HB := n1_; have BK298 := n2_; have GW298 := n3_; have GE298 := n4_; have NB297_298 := n5_; have NB298_297 := n6_; clear n0_ n1_ n2_ n3_ n4_ n5_ n6_; clear hb hbox hg; have hnb12 := NB297_298.out; have hnc12 := NB298_297.out; have hcz13_0 : w11.cell? ⟨gb297, 0, none⟩ = some (.int .i64 a0_0) := (aG BK297.out 0).trans rfl; have hcz13_1 : w11.cell? ⟨gb297, 1, none⟩ = some (.int .i64 a0_1) := (aG BK297.out 1).trans rfl; have hcz13_2 : w11.cell? ⟨gb297, 2, none⟩ = some (.int .i64 a0_2) := (aG BK297.out 2).trans rfl; have hcz13_3 : w11.cell? ⟨gb297, 3, none⟩ = some (.int .i64 a0_3) := (aG BK297.out 3).trans rfl; have hcz13_4 : w11.cell? ⟨gb297, 4, none⟩ = some (.int .i64 a0_4) := (aG BK297.out 4).trans rfl; have hfz13_0 := aH BK297.out 0; have hfz13_1 := aH BK297.out 1; have hfz13_2 := aH BK297.out 2; have hfz13_3 := aH BK297.out 3; have hfz13_4 := aH BK297.out 4; have hcz14_0 : w11.cell? ⟨gb298, 0, none⟩ = some (.int .i64 a1_0) := (aG BK298.out 0).trans rfl; have hcz14_1 : w11.cell? ⟨gb298, 1, none⟩ = some (.int .i64 a1_1) := (aG BK298.out 1).trans rfl; have hcz14_2 : w11.cell? ⟨gb298, 2, none⟩ = some (.int .i64 a1_2) := (aG BK298.out 2).trans rfl; have hcz14_3 : w11.cell? ⟨gb298, 3, none⟩ = some (.int .i64 a1_3) := (aG BK298.out 3).trans rfl; have hcz14_4 : w11.cell? ⟨gb298, 4, none⟩ = some (.int .i64 a1_4) := (aG BK298.out 4).trans rfl; have hfz14_0 := aH BK298.out 0; have hfz14_1 := aH BK298.out 1; have hfz14_2 := aH BK298.out 2; have hfz14_3 := aH BK298.out 3; have hfz14_4 := aH BK298.out 4))
   go_ret
   exact ⟨by first | rfl | (simp [errW_none, errW_some] <;> rfl) | (simp [*, errW_none, errW_some] <;> rfl), by repeat (first | (with_reducible first | exact HB.out | apply aE | apply aC | apply aD | refine aJ ?_ GE297.out | refine aJ ?_ GE298.out) | exact HB.out)⟩
  ·rw [if_neg c9] at H
   have c9b0 : (a0_0 == a1_0) = false := beq_eq_false_iff_ne.mpr c9
   have c9b1 : (a0_0 != a1_0) = true := bne_iff_ne.mpr c9
   obtain rfl := Option.some.inj H
   go_enter Try.func92, Try.ntmps92
   go_wp2_with (first | ((with_reducible refine bF (N := 2) rfl ?_); refine bH ?hg (N := 2) ?hd (cs := #[.int .i64 a0_0, .int .i64 a0_1, .int .i64 a0_2, .int .i64 a0_3, .int .i64 a0_4]) (t := 27) ?hr ?_; (case hd => rfl); (case hg => rfl); (case hr => first | (go_simp; done) | (go_simp; rfl)); intro gb297 hg w15 hbox hb; have n0_ := aA.mk (aV (by repeat (first | (with_reducible first | exact HB.out | apply aE | apply aC | apply aD) | exact HB.out)) hb); have n1_ := aA.mk (hbox); have n2_ := aA.mk ((by rw [hg]; exact (aQ (by repeat (first | (with_reducible first | exact HB.out | apply aE | apply aC | apply aD) | exact HB.out))) : w.heap.size ≤ gb297)); have n3_ := aA.mk ((by rw [hg]; exact (aQ (by repeat (first | (with_reducible first | exact HB.out | apply aE | apply aC | apply aD) | exact HB.out))) : w.heap.size ≤ gb297)); clear HB; have HB := n0_; have BK297 := n1_; have GW297 := n2_; have GE297 := n3_; clear n0_ n1_ n2_ n3_; clear hb hbox hg) | ((with_reducible refine bF (N := 3) rfl ?_); refine bH ?hg (N := 3) ?hd (cs := #[.int .i64 a1_0, .int .i64 a1_1, .int .i64 a1_2, .int .i64 a1_3, .int .i64 a1_4]) (t := 27) ?hr ?_; (case hd => rfl); (case hg => rfl); (case hr => first | (go_simp; done) | (go_simp; rfl)); intro gb298 hg w16 hbox hb; have n0_ := aA.mk (aY (g := gb297) (o := .cells #[.int .i64 a0_0, .int .i64 a0_1, .int .i64 a0_2, .int .i64 a0_3, .int .i64 a0_4] 27 (0, 0)) (by (with_reducible repeat (first | refine aK ?_ _ | refine aN ?_ | refine aM ?_ _)); exact BK297.out) hb); have n1_ := aA.mk (aV (by repeat (first | (with_reducible first | exact HB.out | apply aE | apply aC | apply aD | refine aJ ?_ GE297.out) | exact HB.out)) hb); have n2_ := aA.mk (hbox); have n3_ := aA.mk ((by rw [hg]; exact (aQ (by repeat (first | (with_reducible first | exact HB.out | apply aE | apply aC | apply aD | refine aJ ?_ GE297.out) | exact HB.out))) : w.heap.size ≤ gb298)); have n4_ := aA.mk ((by rw [hg]; exact (aQ (by repeat (first | (with_reducible first | exact HB.out | apply aE | apply aC | apply aD | refine aJ ?_ GE297.out) | exact HB.out))) : w.heap.size ≤ gb298)); have n5_ := aA.mk ((by rw [hg]; exact Nat.ne_of_lt (bN (g := gb297) (o := .cells #[.int .i64 a0_0, .int .i64 a0_1, .int .i64 a0_2, .int .i64 a0_3, .int .i64 a0_4] 27 (0, 0)) (by (with_reducible repeat (first | refine aK ?_ _ | refine aN ?_ | refine aM ?_ _)); exact BK297.out)) : gb297 ≠ gb298)); have n6_ := aA.mk ((by rw [hg]; exact Nat.ne_of_gt (bN (g := gb297) (o := .cells #[.int .i64 a0_0, .int .i64 a0_1, .int .i64 a0_2, .int .i64 a0_3, .int .i64 a0_4] 27 (0, 0)) (by (with_reducible repeat (first | refine aK ?_ _ | refine aN ?_ | refine aM ?_ _)); exact BK297.out)) : gb298 ≠ gb297)); clear BK297; clear HB; have BK297 := n0_; have HB := n1_; have BK298 := n2_; have GW298 := n3_; have GE298 := n4_; have NB297_298 := n5_; have NB298_297 := n6_; clear n0_ n1_ n2_ n3_ n4_ n5_ n6_; clear hb hbox hg; have hnb17 := NB297_298.out; have hnc17 := NB298_297.out; have hcz18_0 : w16.cell? ⟨gb297, 0, none⟩ = some (.int .i64 a0_0) := (aG BK297.out 0).trans rfl; have hcz18_1 : w16.cell? ⟨gb297, 1, none⟩ = some (.int .i64 a0_1) := (aG BK297.out 1).trans rfl; have hcz18_2 : w16.cell? ⟨gb297, 2, none⟩ = some (.int .i64 a0_2) := (aG BK297.out 2).trans rfl; have hcz18_3 : w16.cell? ⟨gb297, 3, none⟩ = some (.int .i64 a0_3) := (aG BK297.out 3).trans rfl; have hcz18_4 : w16.cell? ⟨gb297, 4, none⟩ = some (.int .i64 a0_4) := (aG BK297.out 4).trans rfl; have hfz18_0 := aH BK297.out 0; have hfz18_1 := aH BK297.out 1; have hfz18_2 := aH BK297.out 2; have hfz18_3 := aH BK297.out 3; have hfz18_4 := aH BK297.out 4; have hcz19_0 : w16.cell? ⟨gb298, 0, none⟩ = some (.int .i64 a1_0) := (aG BK298.out 0).trans rfl; have hcz19_1 : w16.cell? ⟨gb298, 1, none⟩ = some (.int .i64 a1_1) := (aG BK298.out 1).trans rfl; have hcz19_2 : w16.cell? ⟨gb298, 2, none⟩ = some (.int .i64 a1_2) := (aG BK298.out 2).trans rfl; have hcz19_3 : w16.cell? ⟨gb298, 3, none⟩ = some (.int .i64 a1_3) := (aG BK298.out 3).trans rfl; have hcz19_4 : w16.cell? ⟨gb298, 4, none⟩ = some (.int .i64 a1_4) := (aG BK298.out 4).trans rfl; have hfz19_0 := aH BK298.out 0; have hfz19_1 := aH BK298.out 1; have hfz19_2 := aH BK298.out 2; have hfz19_3 := aH BK298.out 3; have hfz19_4 := aH BK298.out 4))
   go_ret
   exact ⟨by first | rfl | (simp [errW_none, errW_some] <;> rfl) | (simp [*, errW_none, errW_some] <;> rfl), by repeat (first | (with_reducible first | exact HB.out | apply aE | apply aC | apply aD | refine aJ ?_ GE297.out | refine aJ ?_ GE298.out) | exact HB.out)⟩
end Go.Proofs.Ythpfihklkcnckaa.PFnExactTreeOk
